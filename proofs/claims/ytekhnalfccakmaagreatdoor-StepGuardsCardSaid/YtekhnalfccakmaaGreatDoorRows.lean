/-
  NARROWER THAN 'FOR EVERY INPUT', by the rows' own cells (each row's printed sentence says how): StepOps: calm, laid · StepGuards: laid.
  DERIVED. THE GIVEN ROWS OF THIS SEAT. 2 by the template 'for every input the law returns true; each argument reads behind the call as it read before'; 0 by the template 'total and deterministic' (their statements: YtekhnalfccakmaaGreatDoorTotals.lean).
  GIVEN WITH THE SEED: the statements are not yours to turn. If you find one false, say at which input.
  Laid BY PROGRAM, IN A SANDBOX (cutbox-rows.mjs): the forced cells as the released guide's own fill.sh prints them over the translation a870daf030b75ed3… (all of the seat's roots in one cut). By AI agents, Wed Nov 11 2026. No macro, syntax, notation, axiom, sorry.
-/
import Derived.Test.YtekhnalfccakmaaGreatDoorChecked
import GoSem.Claim
import GoSem.ClaimJoined
import GoSem.ClaimMapViews
import Derived.JoinedTies
import Derived.KernelRfl
namespace Go.Proofs.YtekhnalfccakmaaGreatDoor
/- THE CELL 'sum', in the pinned program and in every row, IS THE sha256 OF THE DUMP (.gsa) THAT YtekhnalfccakmaaGreatDoorProg.lean LOADS. Nothing in Lean hashes anything: it is a label: what it is worth is what the hold of that sum in a sandbox is worth. -/
noncomputable def Tryz.pinned : Pinned := { name := "ytekhnalfccakmaagreatdoor", sum := "a870daf030b75ed304bacda97978c46426a09a4dde9a203d1afab897837345e5", checked := Tryz.checked }
namespace Rows
def none {H : Type} : Left H := { results := [], args := [] }

/- WHAT THE LISTED PACKAGE-LEVEL VARIABLES READ AS WHEN THE CALL BEGINS. Each datum BY PROGRAM (the guide's laid-datum.mjs) off the statement by which the dump's own 'gosem.cut.vars' lays the variable. In a bare row this is a premise. The card (YtekhnalfccakmaaGreatDoorCards.lean) ties it to the program's text. -/
def laid_gyre_conf_names {H : Type} : DataW H := .agg [.lit (.string [98, 111, 100, 105, 101, 115]), .lit (.string [109, 97, 115, 115]), .lit (.string [99, 111, 110, 115, 116, 97, 110, 116]), .lit (.string [98, 111, 120]), .lit (.string [116, 111, 112]), .lit (.string [110, 101, 97, 114]), .lit (.string [109, 101, 116, 104, 111, 100])]
def laid_gyre_quot_least {H : Type} : DataW H := .agg [.lit (.int .u64 0), .lit (.int .u64 0), .lit (.int .u64 0), .lit (.int .u64 9223372036854775808)]
def laid_gyre_pull_limits {H : Type} : DataW H := .agg [.agg [.lit (.int .i64 (-2097152)), .lit (.int .i64 2097152)], .agg [.lit (.int .i64 1), .lit (.int .i64 2097152)], .agg [.lit (.int .i64 1), .lit (.int .i64 1048576)], .agg [.lit (.int .i64 1), .lit (.int .i64 1024)], .agg [.lit (.int .i64 (-2097152)), .lit (.int .i64 2097152)], .agg [.lit (.int .i64 0), .lit (.int .i64 13194139533312)]]

/-- 'gyrelaw18.StepOps': WHATEVER THE INPUT: true; the input reads as it did. -/
def stepOpsSpec : ChangeSpec := { name := "stepOps", fn := fun _ => fun
  | [d1, d2, d3] => { results := [.lit (.bool true)], args := [d1, d2, d3] }
  | _ => none }
def stepOpsRow : OpenClaim := { program := "ytekhnalfccakmaagreatdoor", sum := "a870daf030b75ed304bacda97978c46426a09a4dde9a203d1afab897837345e5", func := "gyre/gyrelaw18.StepOps", spec := "stepOps", inPlace := ["math/bits.Add64"], unfollowed := true, recurses := true, named := ["gyre/coef.turn", "gyre/conf.names", "gyre/quot.least", "gyre/pull.limits"], apart := false, calm := true, outside := [.timePasses], laid := [("gyre/conf.names", laid_gyre_conf_names), ("gyre/quot.least", laid_gyre_quot_least), ("gyre/pull.limits", laid_gyre_pull_limits)] }
def StepOpsSaid : Prop := stepOpsRow.holds Tryz.pinned (OpenSpec.ofChange stepOpsSpec)

/-- ITS FALSE NEIGHBOUR: 'it returns false'. Refute it at one input. -/
def stepOpsWrong : ChangeSpec := { name := "stepOps", fn := fun _ => fun
  | [d1, d2, d3] => { results := [.lit (.bool false)], args := [d1, d2, d3] }
  | _ => none }
def StepOpsWrongFalsely : Prop := stepOpsRow.holds Tryz.pinned (OpenSpec.ofChange stepOpsWrong)

/-- 'gyrelaw18.StepGuards': WHATEVER THE INPUT: true; the input reads as it did. -/
def stepGuardsSpec : ChangeSpec := { name := "stepGuards", fn := fun _ => fun
  | [d1, d2, d3] => { results := [.lit (.bool true)], args := [d1, d2, d3] }
  | _ => none }
def stepGuardsRow : OpenClaim := { program := "ytekhnalfccakmaagreatdoor", sum := "a870daf030b75ed304bacda97978c46426a09a4dde9a203d1afab897837345e5", func := "gyre/gyrelaw18.StepGuards", spec := "stepGuards", inPlace := ["math/bits.Add64"], unfollowed := true, recurses := true, named := ["gyre/coef.turn", "gyre/conf.names", "gyre/quot.least", "gyre/pull.limits"], apart := false, laid := [("gyre/conf.names", laid_gyre_conf_names), ("gyre/quot.least", laid_gyre_quot_least), ("gyre/pull.limits", laid_gyre_pull_limits)] }
def StepGuardsSaid : Prop := stepGuardsRow.holds Tryz.pinned (OpenSpec.ofChange stepGuardsSpec)

/-- ITS FALSE NEIGHBOUR: 'it returns false'. Refute it at one input. -/
def stepGuardsWrong : ChangeSpec := { name := "stepGuards", fn := fun _ => fun
  | [d1, d2, d3] => { results := [.lit (.bool false)], args := [d1, d2, d3] }
  | _ => none }
def StepGuardsWrongFalsely : Prop := stepGuardsRow.holds Tryz.pinned (OpenSpec.ofChange stepGuardsWrong)

/- THE SECOND FORM. 'bulk': how many values and letters a reading holds, each counted each time it is reached (what is shared counts as often as it is met; a slice's spare places count too). A statement '..UptoSaid' is the law's where the arguments, and the package variables that the reading takes, are together of bulk at most 1048576: NARROWER than '..Said'. Prove '..Said' where nothing that the law and all that it calls make is longer than what came in: it says more and counts as full. Else prove '..UptoSaid'. A law counts once. -/
mutual
def uptoBulk {H : Type} : DataW H → Nat
  | .lit (.string bytes) => bytes.length + 1
  | .lit _ => 1
  | .nil => 1
  | .ptr d => uptoBulk d + 1
  | .slice elems spare => uptoBulkAll elems + uptoBulkAll spare + 1
  | .agg parts => uptoBulkAll parts + 1
  | .iface _ d => uptoBulk d + 1
  | .map entries => uptoBulkEntries entries + 1
  | .held _ => 1
def uptoBulkAll {H : Type} : List (DataW H) → Nat
  | [] => 0
  | d :: r => uptoBulk d + uptoBulkAll r
def uptoBulkEntries {H : Type} : List (Lit × DataW H) → Nat
  | [] => 0
  | x :: r => uptoBulkEntry x + uptoBulkEntries r
def uptoBulkEntry {H : Type} : Lit × DataW H → Nat
  | (.string bytes, d) => bytes.length + uptoBulk d + 1
  | (_, d) => uptoBulk d + 1
 end
def uptoSmall : (H : Type) → List (DataW H) → Bool := fun _ ds => decide (uptoBulkAll ds ≤ 1048576)
def OpenSpec.upto (s : _root_.Go.ChangeSpec) : _root_.Go.OpenSpec := { _root_.Go.OpenSpec.ofChange s with cond := some uptoSmall }

/-- 'gyrelaw18.StepGuards', WHERE WHAT IT READS IS OF BULK AT MOST 1048576: true; the input reads as it did. -/
def stepGuardsUptoRow : OpenClaim := { program := "ytekhnalfccakmaagreatdoor", sum := "a870daf030b75ed304bacda97978c46426a09a4dde9a203d1afab897837345e5", func := "gyre/gyrelaw18.StepGuards", spec := "stepGuards", inPlace := ["math/bits.Add64"], unfollowed := true, recurses := true, named := ["gyre/coef.turn", "gyre/conf.names", "gyre/quot.least", "gyre/pull.limits"], apart := false, laid := [("gyre/conf.names", laid_gyre_conf_names), ("gyre/quot.least", laid_gyre_quot_least), ("gyre/pull.limits", laid_gyre_pull_limits)], narrowed := true }
def StepGuardsUptoSaid : Prop := stepGuardsUptoRow.holds Tryz.pinned (OpenSpec.upto stepGuardsSpec)

end Rows
end Go.Proofs.YtekhnalfccakmaaGreatDoor
