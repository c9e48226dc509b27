/-
  DERIVED. GIVEN WITH THE SEED: THE PROGRAM's TIES (one call each: nine closed facts by the kernel) AND EACH ROW's TIE, after the 31st guide's Derived/Test/Toyas{Tie, Card}.lean. No idea stands in it: it is a product of the set-up. Laid BY PROGRAM, IN A SANDBOX (cutbox-door.mjs). By AI agents, Wed Nov 11 2026. No macro, syntax, notation, axiom, sorry.
-/
import Derived.Test.YtmnknnojkhkceaaDoorRows
import Derived.LaidByTextLater
import Derived.SevenTiedAt
import Derived.LaidSub
import Derived.LaidOnce
namespace Go.Proofs.YtmnknnojkhkceaaDoor
open Go
set_option maxRecDepth 100000
theorem seatTie1 : Tryd.prog.laidByTextLater [("gyre/conf.names", Rows.laid_gyre_conf_names), ("gyre/quot.least", Rows.laid_gyre_quot_least), ("gyre/pull.limits", Rows.laid_gyre_pull_limits)] [.data, .data, .data] true :=
  Program.laidByTextLater_by_one 30 8 13 (by kernel_rfl) (by kernel_rfl) (by kernel_rfl) (by kernel_rfl) (by kernel_rfl) (by kernel_rfl) (fun _ _ => by kernel_rfl)
theorem noOwnUnsafe : Tryd.pinned.checked.prog.headLifts.contains "ownunsafe" = false := by kernel_rfl
theorem tie : Tryd.prog.laidByTextLater [("gyre/conf.names", Rows.laid_gyre_conf_names), ("gyre/quot.least", Rows.laid_gyre_quot_least), ("gyre/pull.limits", Rows.laid_gyre_pull_limits)] [.data, .data, .data] true :=
  Program.laidByTextLater.sub seatTie1 ["gyre/conf.names", "gyre/quot.least", "gyre/pull.limits"] (by kernel_rfl) (by kernel_rfl)
theorem kickBack_row_tie : Rows.kickBackRow.laidByTextAt .later Tryd.pinned [.data, .data, .data] true :=
  OpenClaim.laidByTextAt_later rfl rfl tie noOwnUnsafe
theorem kickBackUpto_row_tie : Rows.kickBackUptoRow.laidByTextAt .later Tryd.pinned [.data, .data, .data] true :=
  OpenClaim.laidByTextAt_later rfl rfl tie noOwnUnsafe
end Go.Proofs.YtmnknnojkhkceaaDoor
