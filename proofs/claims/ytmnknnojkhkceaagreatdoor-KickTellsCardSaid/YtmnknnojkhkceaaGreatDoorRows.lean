/-
  NARROWER THAN 'FOR EVERY INPUT', by the rows' own cells (each row's printed sentence says how): KickTells: laid · KickSums: laid · KickOrder: laid · KickStill: laid.
  DERIVED. THE GIVEN ROWS OF THIS SEAT. 4 by the template 'for every input the law returns true; each argument reads behind the call as it read before'; 0 by the template 'total and deterministic' (their statements: YtmnknnojkhkceaaGreatDoorTotals.lean).
  GIVEN WITH THE SEED: the statements are not yours to turn. If you find one false, say at which input.
  Laid BY PROGRAM, IN A SANDBOX (cutbox-rows.mjs): the forced cells as the released guide's own fill.sh prints them over the translation 86cb6a60f7b10203… (all of the seat's roots in one cut). By AI agents, Wed Nov 11 2026. No macro, syntax, notation, axiom, sorry.
-/
import Derived.Test.YtmnknnojkhkceaaGreatDoorChecked
import GoSem.Claim
import GoSem.ClaimJoined
import GoSem.ClaimMapViews
import Derived.JoinedTies
import Derived.KernelRfl
namespace Go.Proofs.YtmnknnojkhkceaaGreatDoor
/- THE CELL 'sum', in the pinned program and in every row, IS THE sha256 OF THE DUMP (.gsa) THAT YtmnknnojkhkceaaGreatDoorProg.lean LOADS. Nothing in Lean hashes anything: it is a label: what it is worth is what the hold of that sum in a sandbox is worth. -/
noncomputable def Tryz.pinned : Pinned := { name := "ytmnknnojkhkceaagreatdoor", sum := "86cb6a60f7b10203e1c2b26b3f4df1d7d92b8a5d1900241e2403b047a8502deb", checked := Tryz.checked }
namespace Rows
def none {H : Type} : Left H := { results := [], args := [] }

/- WHAT THE LISTED PACKAGE-LEVEL VARIABLES READ AS WHEN THE CALL BEGINS. Each datum BY PROGRAM (the guide's laid-datum.mjs) off the statement by which the dump's own 'gosem.cut.vars' lays the variable. In a bare row this is a premise. The card (YtmnknnojkhkceaaGreatDoorCards.lean) ties it to the program's text. -/
def laid_gyre_conf_names {H : Type} : DataW H := .agg [.lit (.string [98, 111, 100, 105, 101, 115]), .lit (.string [109, 97, 115, 115]), .lit (.string [99, 111, 110, 115, 116, 97, 110, 116]), .lit (.string [98, 111, 120]), .lit (.string [116, 111, 112]), .lit (.string [110, 101, 97, 114]), .lit (.string [109, 101, 116, 104, 111, 100])]
def laid_gyre_quot_least {H : Type} : DataW H := .agg [.lit (.int .u64 0), .lit (.int .u64 0), .lit (.int .u64 0), .lit (.int .u64 9223372036854775808)]
def laid_gyre_pull_limits {H : Type} : DataW H := .agg [.agg [.lit (.int .i64 (-2097152)), .lit (.int .i64 2097152)], .agg [.lit (.int .i64 1), .lit (.int .i64 2097152)], .agg [.lit (.int .i64 1), .lit (.int .i64 1048576)], .agg [.lit (.int .i64 1), .lit (.int .i64 1024)], .agg [.lit (.int .i64 (-2097152)), .lit (.int .i64 2097152)], .agg [.lit (.int .i64 0), .lit (.int .i64 13194139533312)]]

/-- 'gyrelaw16.KickTells': WHATEVER THE INPUT: true; the input reads as it did. -/
def kickTellsSpec : ChangeSpec := { name := "kickTells", fn := fun _ => fun
  | [d1, d2, d3, d4, d5] => { results := [.lit (.bool true)], args := [d1, d2, d3, d4, d5] }
  | _ => none }
def kickTellsRow : OpenClaim := { program := "ytmnknnojkhkceaagreatdoor", sum := "86cb6a60f7b10203e1c2b26b3f4df1d7d92b8a5d1900241e2403b047a8502deb", func := "gyre/gyrelaw16.KickTells", spec := "kickTells", inPlace := ["math/bits.Add64"], unfollowed := true, recurses := true, named := ["gyre/conf.names", "gyre/pull.limits", "gyre/quot.least"], apart := false, laid := [("gyre/conf.names", laid_gyre_conf_names), ("gyre/quot.least", laid_gyre_quot_least), ("gyre/pull.limits", laid_gyre_pull_limits)] }
def KickTellsSaid : Prop := kickTellsRow.holds Tryz.pinned (OpenSpec.ofChange kickTellsSpec)

/-- ITS FALSE NEIGHBOUR: 'it returns false'. Refute it at one input. -/
def kickTellsWrong : ChangeSpec := { name := "kickTells", fn := fun _ => fun
  | [d1, d2, d3, d4, d5] => { results := [.lit (.bool false)], args := [d1, d2, d3, d4, d5] }
  | _ => none }
def KickTellsWrongFalsely : Prop := kickTellsRow.holds Tryz.pinned (OpenSpec.ofChange kickTellsWrong)

/-- 'gyrelaw16.KickSums': WHATEVER THE INPUT: true; the input reads as it did. -/
def kickSumsSpec : ChangeSpec := { name := "kickSums", fn := fun _ => fun
  | [d1, d2, d3, d4, d5] => { results := [.lit (.bool true)], args := [d1, d2, d3, d4, d5] }
  | _ => none }
def kickSumsRow : OpenClaim := { program := "ytmnknnojkhkceaagreatdoor", sum := "86cb6a60f7b10203e1c2b26b3f4df1d7d92b8a5d1900241e2403b047a8502deb", func := "gyre/gyrelaw16.KickSums", spec := "kickSums", inPlace := ["math/bits.Add64"], unfollowed := true, recurses := true, named := ["gyre/conf.names", "gyre/pull.limits", "gyre/quot.least"], apart := false, laid := [("gyre/conf.names", laid_gyre_conf_names), ("gyre/quot.least", laid_gyre_quot_least), ("gyre/pull.limits", laid_gyre_pull_limits)] }
def KickSumsSaid : Prop := kickSumsRow.holds Tryz.pinned (OpenSpec.ofChange kickSumsSpec)

/-- ITS FALSE NEIGHBOUR: 'it returns false'. Refute it at one input. -/
def kickSumsWrong : ChangeSpec := { name := "kickSums", fn := fun _ => fun
  | [d1, d2, d3, d4, d5] => { results := [.lit (.bool false)], args := [d1, d2, d3, d4, d5] }
  | _ => none }
def KickSumsWrongFalsely : Prop := kickSumsRow.holds Tryz.pinned (OpenSpec.ofChange kickSumsWrong)

/-- 'gyrelaw16.KickOrder': WHATEVER THE INPUT: true; the input reads as it did. -/
def kickOrderSpec : ChangeSpec := { name := "kickOrder", fn := fun _ => fun
  | [d1, d2, d3, d4, d5, d6] => { results := [.lit (.bool true)], args := [d1, d2, d3, d4, d5, d6] }
  | _ => none }
def kickOrderRow : OpenClaim := { program := "ytmnknnojkhkceaagreatdoor", sum := "86cb6a60f7b10203e1c2b26b3f4df1d7d92b8a5d1900241e2403b047a8502deb", func := "gyre/gyrelaw16.KickOrder", spec := "kickOrder", inPlace := ["math/bits.Add64"], unfollowed := true, recurses := true, named := ["gyre/conf.names", "gyre/pull.limits", "gyre/quot.least"], apart := false, laid := [("gyre/conf.names", laid_gyre_conf_names), ("gyre/quot.least", laid_gyre_quot_least), ("gyre/pull.limits", laid_gyre_pull_limits)] }
def KickOrderSaid : Prop := kickOrderRow.holds Tryz.pinned (OpenSpec.ofChange kickOrderSpec)

/-- ITS FALSE NEIGHBOUR: 'it returns false'. Refute it at one input. -/
def kickOrderWrong : ChangeSpec := { name := "kickOrder", fn := fun _ => fun
  | [d1, d2, d3, d4, d5, d6] => { results := [.lit (.bool false)], args := [d1, d2, d3, d4, d5, d6] }
  | _ => none }
def KickOrderWrongFalsely : Prop := kickOrderRow.holds Tryz.pinned (OpenSpec.ofChange kickOrderWrong)

/-- 'gyrelaw16.KickStill': WHATEVER THE INPUT: true; the input reads as it did. -/
def kickStillSpec : ChangeSpec := { name := "kickStill", fn := fun _ => fun
  | [d1, d2, d3, d4] => { results := [.lit (.bool true)], args := [d1, d2, d3, d4] }
  | _ => none }
def kickStillRow : OpenClaim := { program := "ytmnknnojkhkceaagreatdoor", sum := "86cb6a60f7b10203e1c2b26b3f4df1d7d92b8a5d1900241e2403b047a8502deb", func := "gyre/gyrelaw16.KickStill", spec := "kickStill", inPlace := ["math/bits.Add64"], unfollowed := true, recurses := true, named := ["gyre/conf.names", "gyre/pull.limits", "gyre/quot.least"], apart := false, laid := [("gyre/conf.names", laid_gyre_conf_names), ("gyre/quot.least", laid_gyre_quot_least), ("gyre/pull.limits", laid_gyre_pull_limits)] }
def KickStillSaid : Prop := kickStillRow.holds Tryz.pinned (OpenSpec.ofChange kickStillSpec)

/-- ITS FALSE NEIGHBOUR: 'it returns false'. Refute it at one input. -/
def kickStillWrong : ChangeSpec := { name := "kickStill", fn := fun _ => fun
  | [d1, d2, d3, d4] => { results := [.lit (.bool false)], args := [d1, d2, d3, d4] }
  | _ => none }
def KickStillWrongFalsely : Prop := kickStillRow.holds Tryz.pinned (OpenSpec.ofChange kickStillWrong)

/- THE SECOND FORM. 'bulk': how many values and letters a reading holds, each counted each time it is reached (what is shared counts as often as it is met; a slice's spare places count too). A statement '..UptoSaid' is the law's where the arguments, and the package variables that the reading takes, are together of bulk at most 1048576: NARROWER than '..Said'. Prove '..Said' where nothing that the law and all that it calls make is longer than what came in: it says more and counts as full. Else prove '..UptoSaid'. A law counts once. -/
mutual
def uptoBulk {H : Type} : DataW H → Nat
  | .lit (.string bytes) => bytes.length + 1
  | .lit _ => 1
  | .nil => 1
  | .ptr d => uptoBulk d + 1
  | .slice elems spare => uptoBulkAll elems + uptoBulkAll spare + 1
  | .agg parts => uptoBulkAll parts + 1
  | .iface _ d => uptoBulk d + 1
  | .map entries => uptoBulkEntries entries + 1
  | .held _ => 1
def uptoBulkAll {H : Type} : List (DataW H) → Nat
  | [] => 0
  | d :: r => uptoBulk d + uptoBulkAll r
def uptoBulkEntries {H : Type} : List (Lit × DataW H) → Nat
  | [] => 0
  | x :: r => uptoBulkEntry x + uptoBulkEntries r
def uptoBulkEntry {H : Type} : Lit × DataW H → Nat
  | (.string bytes, d) => bytes.length + uptoBulk d + 1
  | (_, d) => uptoBulk d + 1
 end
def uptoSmall : (H : Type) → List (DataW H) → Bool := fun _ ds => decide (uptoBulkAll ds ≤ 1048576)
def OpenSpec.upto (s : _root_.Go.ChangeSpec) : _root_.Go.OpenSpec := { _root_.Go.OpenSpec.ofChange s with cond := some uptoSmall }

/-- 'gyrelaw16.KickTells', WHERE WHAT IT READS IS OF BULK AT MOST 1048576: true; the input reads as it did. -/
def kickTellsUptoRow : OpenClaim := { program := "ytmnknnojkhkceaagreatdoor", sum := "86cb6a60f7b10203e1c2b26b3f4df1d7d92b8a5d1900241e2403b047a8502deb", func := "gyre/gyrelaw16.KickTells", spec := "kickTells", inPlace := ["math/bits.Add64"], unfollowed := true, recurses := true, named := ["gyre/conf.names", "gyre/pull.limits", "gyre/quot.least"], apart := false, laid := [("gyre/conf.names", laid_gyre_conf_names), ("gyre/quot.least", laid_gyre_quot_least), ("gyre/pull.limits", laid_gyre_pull_limits)], narrowed := true }
def KickTellsUptoSaid : Prop := kickTellsUptoRow.holds Tryz.pinned (OpenSpec.upto kickTellsSpec)

/-- 'gyrelaw16.KickSums', WHERE WHAT IT READS IS OF BULK AT MOST 1048576: true; the input reads as it did. -/
def kickSumsUptoRow : OpenClaim := { program := "ytmnknnojkhkceaagreatdoor", sum := "86cb6a60f7b10203e1c2b26b3f4df1d7d92b8a5d1900241e2403b047a8502deb", func := "gyre/gyrelaw16.KickSums", spec := "kickSums", inPlace := ["math/bits.Add64"], unfollowed := true, recurses := true, named := ["gyre/conf.names", "gyre/pull.limits", "gyre/quot.least"], apart := false, laid := [("gyre/conf.names", laid_gyre_conf_names), ("gyre/quot.least", laid_gyre_quot_least), ("gyre/pull.limits", laid_gyre_pull_limits)], narrowed := true }
def KickSumsUptoSaid : Prop := kickSumsUptoRow.holds Tryz.pinned (OpenSpec.upto kickSumsSpec)

/-- 'gyrelaw16.KickOrder', WHERE WHAT IT READS IS OF BULK AT MOST 1048576: true; the input reads as it did. -/
def kickOrderUptoRow : OpenClaim := { program := "ytmnknnojkhkceaagreatdoor", sum := "86cb6a60f7b10203e1c2b26b3f4df1d7d92b8a5d1900241e2403b047a8502deb", func := "gyre/gyrelaw16.KickOrder", spec := "kickOrder", inPlace := ["math/bits.Add64"], unfollowed := true, recurses := true, named := ["gyre/conf.names", "gyre/pull.limits", "gyre/quot.least"], apart := false, laid := [("gyre/conf.names", laid_gyre_conf_names), ("gyre/quot.least", laid_gyre_quot_least), ("gyre/pull.limits", laid_gyre_pull_limits)], narrowed := true }
def KickOrderUptoSaid : Prop := kickOrderUptoRow.holds Tryz.pinned (OpenSpec.upto kickOrderSpec)

/-- 'gyrelaw16.KickStill', WHERE WHAT IT READS IS OF BULK AT MOST 1048576: true; the input reads as it did. -/
def kickStillUptoRow : OpenClaim := { program := "ytmnknnojkhkceaagreatdoor", sum := "86cb6a60f7b10203e1c2b26b3f4df1d7d92b8a5d1900241e2403b047a8502deb", func := "gyre/gyrelaw16.KickStill", spec := "kickStill", inPlace := ["math/bits.Add64"], unfollowed := true, recurses := true, named := ["gyre/conf.names", "gyre/pull.limits", "gyre/quot.least"], apart := false, laid := [("gyre/conf.names", laid_gyre_conf_names), ("gyre/quot.least", laid_gyre_quot_least), ("gyre/pull.limits", laid_gyre_pull_limits)], narrowed := true }
def KickStillUptoSaid : Prop := kickStillUptoRow.holds Tryz.pinned (OpenSpec.upto kickStillSpec)

end Rows
end Go.Proofs.YtmnknnojkhkceaaGreatDoor
