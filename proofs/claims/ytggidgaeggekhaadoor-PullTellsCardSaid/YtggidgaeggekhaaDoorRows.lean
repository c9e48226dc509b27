/-
  NARROWER THAN 'FOR EVERY INPUT', by the rows' own cells (each row's printed sentence says how): RootTells: laid · RootRises: laid · RootFraction: laid · RootHalf: laid · PullNearest: laid · PullTurns: laid · PullFalls: laid · PullBeyond: laid · PullTells: laid.
  DERIVED. THE GIVEN ROWS OF THIS SEAT. 9 by the template 'for every input the law returns true; each argument reads behind the call as it read before'; 0 by the template 'total and deterministic' (their statements: YtggidgaeggekhaaDoorTotals.lean).
  GIVEN WITH THE SEED: the statements are not yours to turn. If you find one false, say at which input.
  Laid BY PROGRAM, IN A SANDBOX (cutbox-rows.mjs): the forced cells as the released guide's own fill.sh prints them over the translation 7b2b7ea07370fcff… (all of the seat's roots in one cut). By AI agents, Wed Nov 11 2026. No macro, syntax, notation, axiom, sorry.
-/
import Derived.Test.YtggidgaeggekhaaDoorChecked
import GoSem.Claim
import GoSem.ClaimJoined
import GoSem.ClaimMapViews
import Derived.JoinedTies
import Derived.KernelRfl
namespace Go.Proofs.YtggidgaeggekhaaDoor
/- THE CELL 'sum', in the pinned program and in every row, IS THE sha256 OF THE DUMP (.gsa) THAT YtggidgaeggekhaaDoorProg.lean LOADS. Nothing in Lean hashes anything: it is a label: what it is worth is what the hold of that sum in a sandbox is worth. -/
noncomputable def Tryd.pinned : Pinned := { name := "ytggidgaeggekhaadoor", sum := "7b2b7ea07370fcff7698b99a9c6a4f16f2a3121fa87495393b846cf1e5fb8fcd", checked := Tryd.checked }
namespace Rows
def none {H : Type} : Left H := { results := [], args := [] }

/- WHAT THE LISTED PACKAGE-LEVEL VARIABLES READ AS WHEN THE CALL BEGINS. Each datum BY PROGRAM (the guide's laid-datum.mjs) off the statement by which the dump's own 'gosem.cut.vars' lays the variable. In a bare row this is a premise. The card (YtggidgaeggekhaaDoorCards.lean) ties it to the program's text. -/
def laid_gyre_quot_least {H : Type} : DataW H := .agg [.lit (.int .u64 0), .lit (.int .u64 0), .lit (.int .u64 0), .lit (.int .u64 9223372036854775808)]
def laid_gyre_pull_limits {H : Type} : DataW H := .agg [.agg [.lit (.int .i64 (-2097152)), .lit (.int .i64 2097152)], .agg [.lit (.int .i64 1), .lit (.int .i64 2097152)], .agg [.lit (.int .i64 1), .lit (.int .i64 1048576)], .agg [.lit (.int .i64 1), .lit (.int .i64 1024)], .agg [.lit (.int .i64 (-2097152)), .lit (.int .i64 2097152)], .agg [.lit (.int .i64 0), .lit (.int .i64 13194139533312)]]

/-- 'gyrelaw04.RootTells': WHATEVER THE INPUT: true; the input reads as it did. -/
def rootTellsSpec : ChangeSpec := { name := "rootTells", fn := fun _ => fun
  | [d1, d2, d3] => { results := [.lit (.bool true)], args := [d1, d2, d3] }
  | _ => none }
def rootTellsRow : OpenClaim := { program := "ytggidgaeggekhaadoor", sum := "7b2b7ea07370fcff7698b99a9c6a4f16f2a3121fa87495393b846cf1e5fb8fcd", func := "gyre/gyrelaw04.RootTells", spec := "rootTells", inPlace := ["math/bits.Add64"], unfollowed := true, recurses := true, named := ["gyre/quot.least"], apart := false, laid := [("gyre/quot.least", laid_gyre_quot_least)] }
def RootTellsSaid : Prop := rootTellsRow.holds Tryd.pinned (OpenSpec.ofChange rootTellsSpec)

/-- ITS FALSE NEIGHBOUR: 'it returns false'. Refute it at one input. -/
def rootTellsWrong : ChangeSpec := { name := "rootTells", fn := fun _ => fun
  | [d1, d2, d3] => { results := [.lit (.bool false)], args := [d1, d2, d3] }
  | _ => none }
def RootTellsWrongFalsely : Prop := rootTellsRow.holds Tryd.pinned (OpenSpec.ofChange rootTellsWrong)

/-- 'gyrelaw04.RootRises': WHATEVER THE INPUT: true; the input reads as it did. -/
def rootRisesSpec : ChangeSpec := { name := "rootRises", fn := fun _ => fun
  | [d1, d2, d3] => { results := [.lit (.bool true)], args := [d1, d2, d3] }
  | _ => none }
def rootRisesRow : OpenClaim := { program := "ytggidgaeggekhaadoor", sum := "7b2b7ea07370fcff7698b99a9c6a4f16f2a3121fa87495393b846cf1e5fb8fcd", func := "gyre/gyrelaw04.RootRises", spec := "rootRises", inPlace := ["math/bits.Add64"], unfollowed := true, recurses := true, named := ["gyre/quot.least"], apart := false, laid := [("gyre/quot.least", laid_gyre_quot_least)] }
def RootRisesSaid : Prop := rootRisesRow.holds Tryd.pinned (OpenSpec.ofChange rootRisesSpec)

/-- ITS FALSE NEIGHBOUR: 'it returns false'. Refute it at one input. -/
def rootRisesWrong : ChangeSpec := { name := "rootRises", fn := fun _ => fun
  | [d1, d2, d3] => { results := [.lit (.bool false)], args := [d1, d2, d3] }
  | _ => none }
def RootRisesWrongFalsely : Prop := rootRisesRow.holds Tryd.pinned (OpenSpec.ofChange rootRisesWrong)

/-- 'gyrelaw04.RootFraction': WHATEVER THE INPUT: true; the input reads as it did. -/
def rootFractionSpec : ChangeSpec := { name := "rootFraction", fn := fun _ => fun
  | [d1, d2] => { results := [.lit (.bool true)], args := [d1, d2] }
  | _ => none }
def rootFractionRow : OpenClaim := { program := "ytggidgaeggekhaadoor", sum := "7b2b7ea07370fcff7698b99a9c6a4f16f2a3121fa87495393b846cf1e5fb8fcd", func := "gyre/gyrelaw04.RootFraction", spec := "rootFraction", inPlace := ["math/bits.Add64"], unfollowed := true, recurses := true, named := ["gyre/quot.least"], apart := false, laid := [("gyre/quot.least", laid_gyre_quot_least)] }
def RootFractionSaid : Prop := rootFractionRow.holds Tryd.pinned (OpenSpec.ofChange rootFractionSpec)

/-- ITS FALSE NEIGHBOUR: 'it returns false'. Refute it at one input. -/
def rootFractionWrong : ChangeSpec := { name := "rootFraction", fn := fun _ => fun
  | [d1, d2] => { results := [.lit (.bool false)], args := [d1, d2] }
  | _ => none }
def RootFractionWrongFalsely : Prop := rootFractionRow.holds Tryd.pinned (OpenSpec.ofChange rootFractionWrong)

/-- 'gyrelaw04.RootHalf': WHATEVER THE INPUT: true; the input reads as it did. -/
def rootHalfSpec : ChangeSpec := { name := "rootHalf", fn := fun _ => fun
  | [d1, d2] => { results := [.lit (.bool true)], args := [d1, d2] }
  | _ => none }
def rootHalfRow : OpenClaim := { program := "ytggidgaeggekhaadoor", sum := "7b2b7ea07370fcff7698b99a9c6a4f16f2a3121fa87495393b846cf1e5fb8fcd", func := "gyre/gyrelaw04.RootHalf", spec := "rootHalf", inPlace := ["math/bits.Add64"], unfollowed := true, recurses := true, named := ["gyre/quot.least"], apart := false, laid := [("gyre/quot.least", laid_gyre_quot_least)] }
def RootHalfSaid : Prop := rootHalfRow.holds Tryd.pinned (OpenSpec.ofChange rootHalfSpec)

/-- ITS FALSE NEIGHBOUR: 'it returns false'. Refute it at one input. -/
def rootHalfWrong : ChangeSpec := { name := "rootHalf", fn := fun _ => fun
  | [d1, d2] => { results := [.lit (.bool false)], args := [d1, d2] }
  | _ => none }
def RootHalfWrongFalsely : Prop := rootHalfRow.holds Tryd.pinned (OpenSpec.ofChange rootHalfWrong)

/-- 'gyrelaw12.PullNearest': WHATEVER THE INPUT: true; the input reads as it did. -/
def pullNearestSpec : ChangeSpec := { name := "pullNearest", fn := fun _ => fun
  | [d1, d2, d3, d4, d5, d6] => { results := [.lit (.bool true)], args := [d1, d2, d3, d4, d5, d6] }
  | _ => none }
def pullNearestRow : OpenClaim := { program := "ytggidgaeggekhaadoor", sum := "7b2b7ea07370fcff7698b99a9c6a4f16f2a3121fa87495393b846cf1e5fb8fcd", func := "gyre/gyrelaw12.PullNearest", spec := "pullNearest", inPlace := ["math/bits.Add64"], unfollowed := true, recurses := true, named := ["gyre/pull.limits", "gyre/quot.least"], apart := false, laid := [("gyre/quot.least", laid_gyre_quot_least), ("gyre/pull.limits", laid_gyre_pull_limits)] }
def PullNearestSaid : Prop := pullNearestRow.holds Tryd.pinned (OpenSpec.ofChange pullNearestSpec)

/-- ITS FALSE NEIGHBOUR: 'it returns false'. Refute it at one input. -/
def pullNearestWrong : ChangeSpec := { name := "pullNearest", fn := fun _ => fun
  | [d1, d2, d3, d4, d5, d6] => { results := [.lit (.bool false)], args := [d1, d2, d3, d4, d5, d6] }
  | _ => none }
def PullNearestWrongFalsely : Prop := pullNearestRow.holds Tryd.pinned (OpenSpec.ofChange pullNearestWrong)

/-- 'gyrelaw12.PullTurns': WHATEVER THE INPUT: true; the input reads as it did. -/
def pullTurnsSpec : ChangeSpec := { name := "pullTurns", fn := fun _ => fun
  | [d1, d2, d3, d4, d5] => { results := [.lit (.bool true)], args := [d1, d2, d3, d4, d5] }
  | _ => none }
def pullTurnsRow : OpenClaim := { program := "ytggidgaeggekhaadoor", sum := "7b2b7ea07370fcff7698b99a9c6a4f16f2a3121fa87495393b846cf1e5fb8fcd", func := "gyre/gyrelaw12.PullTurns", spec := "pullTurns", inPlace := ["math/bits.Add64"], unfollowed := true, recurses := true, named := ["gyre/pull.limits", "gyre/quot.least"], apart := false, laid := [("gyre/quot.least", laid_gyre_quot_least), ("gyre/pull.limits", laid_gyre_pull_limits)] }
def PullTurnsSaid : Prop := pullTurnsRow.holds Tryd.pinned (OpenSpec.ofChange pullTurnsSpec)

/-- ITS FALSE NEIGHBOUR: 'it returns false'. Refute it at one input. -/
def pullTurnsWrong : ChangeSpec := { name := "pullTurns", fn := fun _ => fun
  | [d1, d2, d3, d4, d5] => { results := [.lit (.bool false)], args := [d1, d2, d3, d4, d5] }
  | _ => none }
def PullTurnsWrongFalsely : Prop := pullTurnsRow.holds Tryd.pinned (OpenSpec.ofChange pullTurnsWrong)

/-- 'gyrelaw12.PullFalls': WHATEVER THE INPUT: true; the input reads as it did. -/
def pullFallsSpec : ChangeSpec := { name := "pullFalls", fn := fun _ => fun
  | [d1, d2, d3, d4, d5] => { results := [.lit (.bool true)], args := [d1, d2, d3, d4, d5] }
  | _ => none }
def pullFallsRow : OpenClaim := { program := "ytggidgaeggekhaadoor", sum := "7b2b7ea07370fcff7698b99a9c6a4f16f2a3121fa87495393b846cf1e5fb8fcd", func := "gyre/gyrelaw12.PullFalls", spec := "pullFalls", inPlace := ["math/bits.Add64"], unfollowed := true, recurses := true, named := ["gyre/pull.limits", "gyre/quot.least"], apart := false, laid := [("gyre/quot.least", laid_gyre_quot_least), ("gyre/pull.limits", laid_gyre_pull_limits)] }
def PullFallsSaid : Prop := pullFallsRow.holds Tryd.pinned (OpenSpec.ofChange pullFallsSpec)

/-- ITS FALSE NEIGHBOUR: 'it returns false'. Refute it at one input. -/
def pullFallsWrong : ChangeSpec := { name := "pullFalls", fn := fun _ => fun
  | [d1, d2, d3, d4, d5] => { results := [.lit (.bool false)], args := [d1, d2, d3, d4, d5] }
  | _ => none }
def PullFallsWrongFalsely : Prop := pullFallsRow.holds Tryd.pinned (OpenSpec.ofChange pullFallsWrong)

/-- 'gyrelaw12.PullBeyond': WHATEVER THE INPUT: true; the input reads as it did. -/
def pullBeyondSpec : ChangeSpec := { name := "pullBeyond", fn := fun _ => fun
  | [d1, d2, d3, d4, d5, d6] => { results := [.lit (.bool true)], args := [d1, d2, d3, d4, d5, d6] }
  | _ => none }
def pullBeyondRow : OpenClaim := { program := "ytggidgaeggekhaadoor", sum := "7b2b7ea07370fcff7698b99a9c6a4f16f2a3121fa87495393b846cf1e5fb8fcd", func := "gyre/gyrelaw12.PullBeyond", spec := "pullBeyond", inPlace := ["math/bits.Add64"], unfollowed := true, recurses := true, named := ["gyre/pull.limits", "gyre/quot.least"], apart := false, laid := [("gyre/quot.least", laid_gyre_quot_least), ("gyre/pull.limits", laid_gyre_pull_limits)] }
def PullBeyondSaid : Prop := pullBeyondRow.holds Tryd.pinned (OpenSpec.ofChange pullBeyondSpec)

/-- ITS FALSE NEIGHBOUR: 'it returns false'. Refute it at one input. -/
def pullBeyondWrong : ChangeSpec := { name := "pullBeyond", fn := fun _ => fun
  | [d1, d2, d3, d4, d5, d6] => { results := [.lit (.bool false)], args := [d1, d2, d3, d4, d5, d6] }
  | _ => none }
def PullBeyondWrongFalsely : Prop := pullBeyondRow.holds Tryd.pinned (OpenSpec.ofChange pullBeyondWrong)

/-- 'gyrelaw12.PullTells': WHATEVER THE INPUT: true; the input reads as it did. -/
def pullTellsSpec : ChangeSpec := { name := "pullTells", fn := fun _ => fun
  | [d1, d2, d3, d4, d5, d6, d7] => { results := [.lit (.bool true)], args := [d1, d2, d3, d4, d5, d6, d7] }
  | _ => none }
def pullTellsRow : OpenClaim := { program := "ytggidgaeggekhaadoor", sum := "7b2b7ea07370fcff7698b99a9c6a4f16f2a3121fa87495393b846cf1e5fb8fcd", func := "gyre/gyrelaw12.PullTells", spec := "pullTells", inPlace := ["math/bits.Add64"], unfollowed := true, recurses := true, named := ["gyre/pull.limits", "gyre/quot.least"], apart := false, laid := [("gyre/quot.least", laid_gyre_quot_least), ("gyre/pull.limits", laid_gyre_pull_limits)] }
def PullTellsSaid : Prop := pullTellsRow.holds Tryd.pinned (OpenSpec.ofChange pullTellsSpec)

/-- ITS FALSE NEIGHBOUR: 'it returns false'. Refute it at one input. -/
def pullTellsWrong : ChangeSpec := { name := "pullTells", fn := fun _ => fun
  | [d1, d2, d3, d4, d5, d6, d7] => { results := [.lit (.bool false)], args := [d1, d2, d3, d4, d5, d6, d7] }
  | _ => none }
def PullTellsWrongFalsely : Prop := pullTellsRow.holds Tryd.pinned (OpenSpec.ofChange pullTellsWrong)

/- THE SECOND FORM. 'bulk': how many values and letters a reading holds, each counted each time it is reached (what is shared counts as often as it is met; a slice's spare places count too). A statement '..UptoSaid' is the law's where the arguments, and the package variables that the reading takes, are together of bulk at most 1048576: NARROWER than '..Said'. Prove '..Said' where nothing that the law and all that it calls make is longer than what came in: it says more and counts as full. Else prove '..UptoSaid'. A law counts once. -/
mutual
def uptoBulk {H : Type} : DataW H → Nat
  | .lit (.string bytes) => bytes.length + 1
  | .lit _ => 1
  | .nil => 1
  | .ptr d => uptoBulk d + 1
  | .slice elems spare => uptoBulkAll elems + uptoBulkAll spare + 1
  | .agg parts => uptoBulkAll parts + 1
  | .iface _ d => uptoBulk d + 1
  | .map entries => uptoBulkEntries entries + 1
  | .held _ => 1
def uptoBulkAll {H : Type} : List (DataW H) → Nat
  | [] => 0
  | d :: r => uptoBulk d + uptoBulkAll r
def uptoBulkEntries {H : Type} : List (Lit × DataW H) → Nat
  | [] => 0
  | x :: r => uptoBulkEntry x + uptoBulkEntries r
def uptoBulkEntry {H : Type} : Lit × DataW H → Nat
  | (.string bytes, d) => bytes.length + uptoBulk d + 1
  | (_, d) => uptoBulk d + 1
 end
def uptoSmall : (H : Type) → List (DataW H) → Bool := fun _ ds => decide (uptoBulkAll ds ≤ 1048576)
def OpenSpec.upto (s : _root_.Go.ChangeSpec) : _root_.Go.OpenSpec := { _root_.Go.OpenSpec.ofChange s with cond := some uptoSmall }

/-- 'gyrelaw04.RootTells', WHERE WHAT IT READS IS OF BULK AT MOST 1048576: true; the input reads as it did. -/
def rootTellsUptoRow : OpenClaim := { program := "ytggidgaeggekhaadoor", sum := "7b2b7ea07370fcff7698b99a9c6a4f16f2a3121fa87495393b846cf1e5fb8fcd", func := "gyre/gyrelaw04.RootTells", spec := "rootTells", inPlace := ["math/bits.Add64"], unfollowed := true, recurses := true, named := ["gyre/quot.least"], apart := false, laid := [("gyre/quot.least", laid_gyre_quot_least)], narrowed := true }
def RootTellsUptoSaid : Prop := rootTellsUptoRow.holds Tryd.pinned (OpenSpec.upto rootTellsSpec)

/-- 'gyrelaw04.RootRises', WHERE WHAT IT READS IS OF BULK AT MOST 1048576: true; the input reads as it did. -/
def rootRisesUptoRow : OpenClaim := { program := "ytggidgaeggekhaadoor", sum := "7b2b7ea07370fcff7698b99a9c6a4f16f2a3121fa87495393b846cf1e5fb8fcd", func := "gyre/gyrelaw04.RootRises", spec := "rootRises", inPlace := ["math/bits.Add64"], unfollowed := true, recurses := true, named := ["gyre/quot.least"], apart := false, laid := [("gyre/quot.least", laid_gyre_quot_least)], narrowed := true }
def RootRisesUptoSaid : Prop := rootRisesUptoRow.holds Tryd.pinned (OpenSpec.upto rootRisesSpec)

/-- 'gyrelaw04.RootFraction', WHERE WHAT IT READS IS OF BULK AT MOST 1048576: true; the input reads as it did. -/
def rootFractionUptoRow : OpenClaim := { program := "ytggidgaeggekhaadoor", sum := "7b2b7ea07370fcff7698b99a9c6a4f16f2a3121fa87495393b846cf1e5fb8fcd", func := "gyre/gyrelaw04.RootFraction", spec := "rootFraction", inPlace := ["math/bits.Add64"], unfollowed := true, recurses := true, named := ["gyre/quot.least"], apart := false, laid := [("gyre/quot.least", laid_gyre_quot_least)], narrowed := true }
def RootFractionUptoSaid : Prop := rootFractionUptoRow.holds Tryd.pinned (OpenSpec.upto rootFractionSpec)

/-- 'gyrelaw04.RootHalf', WHERE WHAT IT READS IS OF BULK AT MOST 1048576: true; the input reads as it did. -/
def rootHalfUptoRow : OpenClaim := { program := "ytggidgaeggekhaadoor", sum := "7b2b7ea07370fcff7698b99a9c6a4f16f2a3121fa87495393b846cf1e5fb8fcd", func := "gyre/gyrelaw04.RootHalf", spec := "rootHalf", inPlace := ["math/bits.Add64"], unfollowed := true, recurses := true, named := ["gyre/quot.least"], apart := false, laid := [("gyre/quot.least", laid_gyre_quot_least)], narrowed := true }
def RootHalfUptoSaid : Prop := rootHalfUptoRow.holds Tryd.pinned (OpenSpec.upto rootHalfSpec)

/-- 'gyrelaw12.PullNearest', WHERE WHAT IT READS IS OF BULK AT MOST 1048576: true; the input reads as it did. -/
def pullNearestUptoRow : OpenClaim := { program := "ytggidgaeggekhaadoor", sum := "7b2b7ea07370fcff7698b99a9c6a4f16f2a3121fa87495393b846cf1e5fb8fcd", func := "gyre/gyrelaw12.PullNearest", spec := "pullNearest", inPlace := ["math/bits.Add64"], unfollowed := true, recurses := true, named := ["gyre/pull.limits", "gyre/quot.least"], apart := false, laid := [("gyre/quot.least", laid_gyre_quot_least), ("gyre/pull.limits", laid_gyre_pull_limits)], narrowed := true }
def PullNearestUptoSaid : Prop := pullNearestUptoRow.holds Tryd.pinned (OpenSpec.upto pullNearestSpec)

/-- 'gyrelaw12.PullTurns', WHERE WHAT IT READS IS OF BULK AT MOST 1048576: true; the input reads as it did. -/
def pullTurnsUptoRow : OpenClaim := { program := "ytggidgaeggekhaadoor", sum := "7b2b7ea07370fcff7698b99a9c6a4f16f2a3121fa87495393b846cf1e5fb8fcd", func := "gyre/gyrelaw12.PullTurns", spec := "pullTurns", inPlace := ["math/bits.Add64"], unfollowed := true, recurses := true, named := ["gyre/pull.limits", "gyre/quot.least"], apart := false, laid := [("gyre/quot.least", laid_gyre_quot_least), ("gyre/pull.limits", laid_gyre_pull_limits)], narrowed := true }
def PullTurnsUptoSaid : Prop := pullTurnsUptoRow.holds Tryd.pinned (OpenSpec.upto pullTurnsSpec)

/-- 'gyrelaw12.PullFalls', WHERE WHAT IT READS IS OF BULK AT MOST 1048576: true; the input reads as it did. -/
def pullFallsUptoRow : OpenClaim := { program := "ytggidgaeggekhaadoor", sum := "7b2b7ea07370fcff7698b99a9c6a4f16f2a3121fa87495393b846cf1e5fb8fcd", func := "gyre/gyrelaw12.PullFalls", spec := "pullFalls", inPlace := ["math/bits.Add64"], unfollowed := true, recurses := true, named := ["gyre/pull.limits", "gyre/quot.least"], apart := false, laid := [("gyre/quot.least", laid_gyre_quot_least), ("gyre/pull.limits", laid_gyre_pull_limits)], narrowed := true }
def PullFallsUptoSaid : Prop := pullFallsUptoRow.holds Tryd.pinned (OpenSpec.upto pullFallsSpec)

/-- 'gyrelaw12.PullBeyond', WHERE WHAT IT READS IS OF BULK AT MOST 1048576: true; the input reads as it did. -/
def pullBeyondUptoRow : OpenClaim := { program := "ytggidgaeggekhaadoor", sum := "7b2b7ea07370fcff7698b99a9c6a4f16f2a3121fa87495393b846cf1e5fb8fcd", func := "gyre/gyrelaw12.PullBeyond", spec := "pullBeyond", inPlace := ["math/bits.Add64"], unfollowed := true, recurses := true, named := ["gyre/pull.limits", "gyre/quot.least"], apart := false, laid := [("gyre/quot.least", laid_gyre_quot_least), ("gyre/pull.limits", laid_gyre_pull_limits)], narrowed := true }
def PullBeyondUptoSaid : Prop := pullBeyondUptoRow.holds Tryd.pinned (OpenSpec.upto pullBeyondSpec)

/-- 'gyrelaw12.PullTells', WHERE WHAT IT READS IS OF BULK AT MOST 1048576: true; the input reads as it did. -/
def pullTellsUptoRow : OpenClaim := { program := "ytggidgaeggekhaadoor", sum := "7b2b7ea07370fcff7698b99a9c6a4f16f2a3121fa87495393b846cf1e5fb8fcd", func := "gyre/gyrelaw12.PullTells", spec := "pullTells", inPlace := ["math/bits.Add64"], unfollowed := true, recurses := true, named := ["gyre/pull.limits", "gyre/quot.least"], apart := false, laid := [("gyre/quot.least", laid_gyre_quot_least), ("gyre/pull.limits", laid_gyre_pull_limits)], narrowed := true }
def PullTellsUptoSaid : Prop := pullTellsUptoRow.holds Tryd.pinned (OpenSpec.upto pullTellsSpec)

end Rows
end Go.Proofs.YtggidgaeggekhaaDoor
