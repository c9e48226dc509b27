/-
  NARROWER THAN 'FOR EVERY INPUT', by the rows' own cells (each row's printed sentence says how): HullTells: laid · HullLoss: laid · HullHolds: laid · HullTight: laid · HullSteps: laid.
  DERIVED. THE GIVEN ROWS OF THIS SEAT. 5 by the template 'for every input the law returns true; each argument reads behind the call as it read before'; 0 by the template 'total and deterministic' (their statements: YtamodcpmplmaoaaGreatDoorTotals.lean).
  GIVEN WITH THE SEED: the statements are not yours to turn. If you find one false, say at which input.
  Laid BY PROGRAM, IN A SANDBOX (cutbox-rows.mjs): the forced cells as the released guide's own fill.sh prints them over the translation a469a2d252051a82… (all of the seat's roots in one cut). By AI agents, Wed Nov 11 2026. No macro, syntax, notation, axiom, sorry.
-/
import Derived.Test.YtamodcpmplmaoaaGreatDoorChecked
import GoSem.Claim
import GoSem.ClaimJoined
import GoSem.ClaimMapViews
import Derived.JoinedTies
import Derived.KernelRfl
namespace Go.Proofs.YtamodcpmplmaoaaGreatDoor
/- THE CELL 'sum', in the pinned program and in every row, IS THE sha256 OF THE DUMP (.gsa) THAT YtamodcpmplmaoaaGreatDoorProg.lean LOADS. Nothing in Lean hashes anything: it is a label: what it is worth is what the hold of that sum in a sandbox is worth. -/
noncomputable def Tryz.pinned : Pinned := { name := "ytamodcpmplmaoaagreatdoor", sum := "a469a2d252051a82aa5e649190ddcdfd5afb09ff95d4183c0dc9e6c83817973b", checked := Tryz.checked }
namespace Rows
def none {H : Type} : Left H := { results := [], args := [] }

/- WHAT THE LISTED PACKAGE-LEVEL VARIABLES READ AS WHEN THE CALL BEGINS. Each datum BY PROGRAM (the guide's laid-datum.mjs) off the statement by which the dump's own 'gosem.cut.vars' lays the variable. In a bare row this is a premise. The card (YtamodcpmplmaoaaGreatDoorCards.lean) ties it to the program's text. -/
def laid_gyre_conf_names {H : Type} : DataW H := .agg [.lit (.string [98, 111, 100, 105, 101, 115]), .lit (.string [109, 97, 115, 115]), .lit (.string [99, 111, 110, 115, 116, 97, 110, 116]), .lit (.string [98, 111, 120]), .lit (.string [116, 111, 112]), .lit (.string [110, 101, 97, 114]), .lit (.string [109, 101, 116, 104, 111, 100])]
def laid_gyre_quot_least {H : Type} : DataW H := .agg [.lit (.int .u64 0), .lit (.int .u64 0), .lit (.int .u64 0), .lit (.int .u64 9223372036854775808)]

/-- 'gyrelaw24.HullTells': WHATEVER THE INPUT: true; the input reads as it did. -/
def hullTellsSpec : ChangeSpec := { name := "hullTells", fn := fun _ => fun
  | [d1, d2, d3, d4, d5, d6] => { results := [.lit (.bool true)], args := [d1, d2, d3, d4, d5, d6] }
  | _ => none }
def hullTellsRow : OpenClaim := { program := "ytamodcpmplmaoaagreatdoor", sum := "a469a2d252051a82aa5e649190ddcdfd5afb09ff95d4183c0dc9e6c83817973b", func := "gyre/gyrelaw24.HullTells", spec := "hullTells", inPlace := ["math/bits.Add64"], unfollowed := true, recurses := true, named := ["gyre/conf.names", "gyre/quot.least"], apart := false, laid := [("gyre/conf.names", laid_gyre_conf_names), ("gyre/quot.least", laid_gyre_quot_least)] }
def HullTellsSaid : Prop := hullTellsRow.holds Tryz.pinned (OpenSpec.ofChange hullTellsSpec)

/-- ITS FALSE NEIGHBOUR: 'it returns false'. Refute it at one input. -/
def hullTellsWrong : ChangeSpec := { name := "hullTells", fn := fun _ => fun
  | [d1, d2, d3, d4, d5, d6] => { results := [.lit (.bool false)], args := [d1, d2, d3, d4, d5, d6] }
  | _ => none }
def HullTellsWrongFalsely : Prop := hullTellsRow.holds Tryz.pinned (OpenSpec.ofChange hullTellsWrong)

/-- 'gyrelaw24.HullLoss': WHATEVER THE INPUT: true; the input reads as it did. -/
def hullLossSpec : ChangeSpec := { name := "hullLoss", fn := fun _ => fun
  | [d1, d2, d3] => { results := [.lit (.bool true)], args := [d1, d2, d3] }
  | _ => none }
def hullLossRow : OpenClaim := { program := "ytamodcpmplmaoaagreatdoor", sum := "a469a2d252051a82aa5e649190ddcdfd5afb09ff95d4183c0dc9e6c83817973b", func := "gyre/gyrelaw24.HullLoss", spec := "hullLoss", inPlace := ["math/bits.Add64"], unfollowed := true, recurses := true, named := ["gyre/conf.names", "gyre/quot.least"], apart := false, laid := [("gyre/conf.names", laid_gyre_conf_names), ("gyre/quot.least", laid_gyre_quot_least)] }
def HullLossSaid : Prop := hullLossRow.holds Tryz.pinned (OpenSpec.ofChange hullLossSpec)

/-- ITS FALSE NEIGHBOUR: 'it returns false'. Refute it at one input. -/
def hullLossWrong : ChangeSpec := { name := "hullLoss", fn := fun _ => fun
  | [d1, d2, d3] => { results := [.lit (.bool false)], args := [d1, d2, d3] }
  | _ => none }
def HullLossWrongFalsely : Prop := hullLossRow.holds Tryz.pinned (OpenSpec.ofChange hullLossWrong)

/-- 'gyrelaw24.HullHolds': WHATEVER THE INPUT: true; the input reads as it did. -/
def hullHoldsSpec : ChangeSpec := { name := "hullHolds", fn := fun _ => fun
  | [d1, d2, d3] => { results := [.lit (.bool true)], args := [d1, d2, d3] }
  | _ => none }
def hullHoldsRow : OpenClaim := { program := "ytamodcpmplmaoaagreatdoor", sum := "a469a2d252051a82aa5e649190ddcdfd5afb09ff95d4183c0dc9e6c83817973b", func := "gyre/gyrelaw24.HullHolds", spec := "hullHolds", inPlace := ["math/bits.Add64"], unfollowed := true, recurses := true, named := ["gyre/conf.names", "gyre/quot.least"], apart := false, laid := [("gyre/conf.names", laid_gyre_conf_names), ("gyre/quot.least", laid_gyre_quot_least)] }
def HullHoldsSaid : Prop := hullHoldsRow.holds Tryz.pinned (OpenSpec.ofChange hullHoldsSpec)

/-- ITS FALSE NEIGHBOUR: 'it returns false'. Refute it at one input. -/
def hullHoldsWrong : ChangeSpec := { name := "hullHolds", fn := fun _ => fun
  | [d1, d2, d3] => { results := [.lit (.bool false)], args := [d1, d2, d3] }
  | _ => none }
def HullHoldsWrongFalsely : Prop := hullHoldsRow.holds Tryz.pinned (OpenSpec.ofChange hullHoldsWrong)

/-- 'gyrelaw24.HullTight': WHATEVER THE INPUT: true; the input reads as it did. -/
def hullTightSpec : ChangeSpec := { name := "hullTight", fn := fun _ => fun
  | [d] => { results := [.lit (.bool true)], args := [d] }
  | _ => none }
def hullTightRow : OpenClaim := { program := "ytamodcpmplmaoaagreatdoor", sum := "a469a2d252051a82aa5e649190ddcdfd5afb09ff95d4183c0dc9e6c83817973b", func := "gyre/gyrelaw24.HullTight", spec := "hullTight", inPlace := ["math/bits.Add64"], unfollowed := true, recurses := true, named := ["gyre/conf.names", "gyre/quot.least"], apart := false, laid := [("gyre/conf.names", laid_gyre_conf_names), ("gyre/quot.least", laid_gyre_quot_least)] }
def HullTightSaid : Prop := hullTightRow.holds Tryz.pinned (OpenSpec.ofChange hullTightSpec)

/-- ITS FALSE NEIGHBOUR: 'it returns false'. Refute it at one input. -/
def hullTightWrong : ChangeSpec := { name := "hullTight", fn := fun _ => fun
  | [d] => { results := [.lit (.bool false)], args := [d] }
  | _ => none }
def HullTightWrongFalsely : Prop := hullTightRow.holds Tryz.pinned (OpenSpec.ofChange hullTightWrong)

/-- 'gyrelaw24.HullSteps': WHATEVER THE INPUT: true; the input reads as it did. -/
def hullStepsSpec : ChangeSpec := { name := "hullSteps", fn := fun _ => fun
  | [d1, d2, d3] => { results := [.lit (.bool true)], args := [d1, d2, d3] }
  | _ => none }
def hullStepsRow : OpenClaim := { program := "ytamodcpmplmaoaagreatdoor", sum := "a469a2d252051a82aa5e649190ddcdfd5afb09ff95d4183c0dc9e6c83817973b", func := "gyre/gyrelaw24.HullSteps", spec := "hullSteps", inPlace := ["math/bits.Add64"], unfollowed := true, recurses := true, named := ["gyre/conf.names", "gyre/quot.least"], apart := false, laid := [("gyre/conf.names", laid_gyre_conf_names), ("gyre/quot.least", laid_gyre_quot_least)] }
def HullStepsSaid : Prop := hullStepsRow.holds Tryz.pinned (OpenSpec.ofChange hullStepsSpec)

/-- ITS FALSE NEIGHBOUR: 'it returns false'. Refute it at one input. -/
def hullStepsWrong : ChangeSpec := { name := "hullSteps", fn := fun _ => fun
  | [d1, d2, d3] => { results := [.lit (.bool false)], args := [d1, d2, d3] }
  | _ => none }
def HullStepsWrongFalsely : Prop := hullStepsRow.holds Tryz.pinned (OpenSpec.ofChange hullStepsWrong)

/- THE SECOND FORM. 'bulk': how many values and letters a reading holds, each counted each time it is reached (what is shared counts as often as it is met; a slice's spare places count too). A statement '..UptoSaid' is the law's where the arguments, and the package variables that the reading takes, are together of bulk at most 1048576: NARROWER than '..Said'. Prove '..Said' where nothing that the law and all that it calls make is longer than what came in: it says more and counts as full. Else prove '..UptoSaid'. A law counts once. -/
mutual
def uptoBulk {H : Type} : DataW H → Nat
  | .lit (.string bytes) => bytes.length + 1
  | .lit _ => 1
  | .nil => 1
  | .ptr d => uptoBulk d + 1
  | .slice elems spare => uptoBulkAll elems + uptoBulkAll spare + 1
  | .agg parts => uptoBulkAll parts + 1
  | .iface _ d => uptoBulk d + 1
  | .map entries => uptoBulkEntries entries + 1
  | .held _ => 1
def uptoBulkAll {H : Type} : List (DataW H) → Nat
  | [] => 0
  | d :: r => uptoBulk d + uptoBulkAll r
def uptoBulkEntries {H : Type} : List (Lit × DataW H) → Nat
  | [] => 0
  | x :: r => uptoBulkEntry x + uptoBulkEntries r
def uptoBulkEntry {H : Type} : Lit × DataW H → Nat
  | (.string bytes, d) => bytes.length + uptoBulk d + 1
  | (_, d) => uptoBulk d + 1
 end
def uptoSmall : (H : Type) → List (DataW H) → Bool := fun _ ds => decide (uptoBulkAll ds ≤ 1048576)
def OpenSpec.upto (s : _root_.Go.ChangeSpec) : _root_.Go.OpenSpec := { _root_.Go.OpenSpec.ofChange s with cond := some uptoSmall }

/-- 'gyrelaw24.HullTells', WHERE WHAT IT READS IS OF BULK AT MOST 1048576: true; the input reads as it did. -/
def hullTellsUptoRow : OpenClaim := { program := "ytamodcpmplmaoaagreatdoor", sum := "a469a2d252051a82aa5e649190ddcdfd5afb09ff95d4183c0dc9e6c83817973b", func := "gyre/gyrelaw24.HullTells", spec := "hullTells", inPlace := ["math/bits.Add64"], unfollowed := true, recurses := true, named := ["gyre/conf.names", "gyre/quot.least"], apart := false, laid := [("gyre/conf.names", laid_gyre_conf_names), ("gyre/quot.least", laid_gyre_quot_least)], narrowed := true }
def HullTellsUptoSaid : Prop := hullTellsUptoRow.holds Tryz.pinned (OpenSpec.upto hullTellsSpec)

/-- 'gyrelaw24.HullLoss', WHERE WHAT IT READS IS OF BULK AT MOST 1048576: true; the input reads as it did. -/
def hullLossUptoRow : OpenClaim := { program := "ytamodcpmplmaoaagreatdoor", sum := "a469a2d252051a82aa5e649190ddcdfd5afb09ff95d4183c0dc9e6c83817973b", func := "gyre/gyrelaw24.HullLoss", spec := "hullLoss", inPlace := ["math/bits.Add64"], unfollowed := true, recurses := true, named := ["gyre/conf.names", "gyre/quot.least"], apart := false, laid := [("gyre/conf.names", laid_gyre_conf_names), ("gyre/quot.least", laid_gyre_quot_least)], narrowed := true }
def HullLossUptoSaid : Prop := hullLossUptoRow.holds Tryz.pinned (OpenSpec.upto hullLossSpec)

/-- 'gyrelaw24.HullHolds', WHERE WHAT IT READS IS OF BULK AT MOST 1048576: true; the input reads as it did. -/
def hullHoldsUptoRow : OpenClaim := { program := "ytamodcpmplmaoaagreatdoor", sum := "a469a2d252051a82aa5e649190ddcdfd5afb09ff95d4183c0dc9e6c83817973b", func := "gyre/gyrelaw24.HullHolds", spec := "hullHolds", inPlace := ["math/bits.Add64"], unfollowed := true, recurses := true, named := ["gyre/conf.names", "gyre/quot.least"], apart := false, laid := [("gyre/conf.names", laid_gyre_conf_names), ("gyre/quot.least", laid_gyre_quot_least)], narrowed := true }
def HullHoldsUptoSaid : Prop := hullHoldsUptoRow.holds Tryz.pinned (OpenSpec.upto hullHoldsSpec)

/-- 'gyrelaw24.HullTight', WHERE WHAT IT READS IS OF BULK AT MOST 1048576: true; the input reads as it did. -/
def hullTightUptoRow : OpenClaim := { program := "ytamodcpmplmaoaagreatdoor", sum := "a469a2d252051a82aa5e649190ddcdfd5afb09ff95d4183c0dc9e6c83817973b", func := "gyre/gyrelaw24.HullTight", spec := "hullTight", inPlace := ["math/bits.Add64"], unfollowed := true, recurses := true, named := ["gyre/conf.names", "gyre/quot.least"], apart := false, laid := [("gyre/conf.names", laid_gyre_conf_names), ("gyre/quot.least", laid_gyre_quot_least)], narrowed := true }
def HullTightUptoSaid : Prop := hullTightUptoRow.holds Tryz.pinned (OpenSpec.upto hullTightSpec)

/-- 'gyrelaw24.HullSteps', WHERE WHAT IT READS IS OF BULK AT MOST 1048576: true; the input reads as it did. -/
def hullStepsUptoRow : OpenClaim := { program := "ytamodcpmplmaoaagreatdoor", sum := "a469a2d252051a82aa5e649190ddcdfd5afb09ff95d4183c0dc9e6c83817973b", func := "gyre/gyrelaw24.HullSteps", spec := "hullSteps", inPlace := ["math/bits.Add64"], unfollowed := true, recurses := true, named := ["gyre/conf.names", "gyre/quot.least"], apart := false, laid := [("gyre/conf.names", laid_gyre_conf_names), ("gyre/quot.least", laid_gyre_quot_least)], narrowed := true }
def HullStepsUptoSaid : Prop := hullStepsUptoRow.holds Tryz.pinned (OpenSpec.upto hullStepsSpec)

end Rows
end Go.Proofs.YtamodcpmplmaoaaGreatDoor
