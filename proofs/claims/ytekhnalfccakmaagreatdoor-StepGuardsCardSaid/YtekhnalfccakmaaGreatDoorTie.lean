/-
  DERIVED. GIVEN WITH THE SEED: THE PROGRAM's TIES (one call each: nine closed facts by the kernel) AND EACH ROW's TIE, after the 31st guide's Derived/Test/Toyas{Tie, Card}.lean. No idea stands in it: it is a product of the set-up. Laid BY PROGRAM, IN A SANDBOX (cutbox-door.mjs). By AI agents, Wed Nov 11 2026. No macro, syntax, notation, axiom, sorry.
-/
import Derived.Test.YtekhnalfccakmaaGreatDoorRows
import Derived.LaidByTextLater
import Derived.SevenTiedAt
import Derived.LaidSub
import Derived.LaidOnce
namespace Go.Proofs.YtekhnalfccakmaaGreatDoor
open Go
set_option maxRecDepth 100000
theorem seatTie1 : Tryz.prog.laidByTextLater [("gyre/conf.names", Rows.laid_gyre_conf_names), ("gyre/quot.least", Rows.laid_gyre_quot_least), ("gyre/pull.limits", Rows.laid_gyre_pull_limits)] [.data, .data, .data] true :=
  Program.laidByTextLater_by_one 30 8 13 (by kernel_rfl) (by kernel_rfl) (by kernel_rfl) (by kernel_rfl) (by kernel_rfl) (by kernel_rfl) (fun _ _ => by kernel_rfl)
theorem noOwnUnsafe : Tryz.pinned.checked.prog.headLifts.contains "ownunsafe" = false := by kernel_rfl
theorem tie : Tryz.prog.laidByTextLater [("gyre/conf.names", Rows.laid_gyre_conf_names), ("gyre/quot.least", Rows.laid_gyre_quot_least), ("gyre/pull.limits", Rows.laid_gyre_pull_limits)] [.data, .data, .data] true :=
  Program.laidByTextLater.sub seatTie1 ["gyre/conf.names", "gyre/quot.least", "gyre/pull.limits"] (by kernel_rfl) (by kernel_rfl)
theorem stepOps_row_tie : Rows.stepOpsRow.laidByTextAt .later Tryz.pinned [.data, .data, .data] true :=
  OpenClaim.laidByTextAt_later rfl rfl tie noOwnUnsafe
theorem stepGuards_row_tie : Rows.stepGuardsRow.laidByTextAt .later Tryz.pinned [.data, .data, .data] true :=
  OpenClaim.laidByTextAt_later rfl rfl tie noOwnUnsafe
theorem stepGuardsUpto_row_tie : Rows.stepGuardsUptoRow.laidByTextAt .later Tryz.pinned [.data, .data, .data] true :=
  OpenClaim.laidByTextAt_later rfl rfl tie noOwnUnsafe
end Go.Proofs.YtekhnalfccakmaaGreatDoor
