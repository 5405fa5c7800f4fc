/-
  DERIVED. GIVEN WITH THE SEED: THE PROGRAM's TIES (one call each: nine closed facts by the kernel) AND EACH ROW's TIE, after the 31st guide's Derived/Test/Toyas{Tie, Card}.lean. No idea stands in it: it is a product of the set-up. Laid BY PROGRAM, IN A SANDBOX (cutbox-door.mjs). By AI agents, Wed Nov 11 2026. No macro, syntax, notation, axiom, sorry.
-/
import Derived.Test.YtlomecfhobehnaaGreatDoorRows
import Derived.LaidByTextLater
import Derived.SevenTiedAt
import Derived.LaidSub
import Derived.LaidOnce
namespace Go.Proofs.YtlomecfhobehnaaGreatDoor
open Go
set_option maxRecDepth 100000
theorem seatTie1 : Tryz.prog.laidByTextLater [("errors.errorType", Rows.laid_errors_errorType), ("escritoire/lex.marks", Rows.laid_escritoire_lex_marks), ("escritoire/expr.levels", Rows.laid_escritoire_expr_levels)] [.handle, .data, .widerDeep] true :=
  Program.laidByTextLater_by_one 29 8 19 (by kernel_rfl) (by kernel_rfl) (by kernel_rfl) (by kernel_rfl) (by kernel_rfl) (by kernel_rfl) (fun _ _ => by kernel_rfl)
theorem noOwnUnsafe : Tryz.pinned.checked.prog.headLifts.contains "ownunsafe" = false := by kernel_rfl
theorem tie : Tryz.prog.laidByTextLater [("errors.errorType", Rows.laid_errors_errorType), ("escritoire/lex.marks", Rows.laid_escritoire_lex_marks), ("escritoire/expr.levels", Rows.laid_escritoire_expr_levels)] [.handle, .data, .widerDeep] true :=
  Program.laidByTextLater.sub seatTie1 ["errors.errorType", "escritoire/lex.marks", "escritoire/expr.levels"] (by kernel_rfl) (by kernel_rfl)
theorem layoutBack_row_tie : Rows.layoutBackRow.laidByTextAt .later Tryz.pinned [.handle, .data, .widerDeep] true :=
  OpenClaim.laidByTextAt_later rfl rfl tie noOwnUnsafe
theorem fixTwice_row_tie : Rows.fixTwiceRow.laidByTextAt .later Tryz.pinned [.handle, .data, .widerDeep] true :=
  OpenClaim.laidByTextAt_later rfl rfl tie noOwnUnsafe
theorem fixSets_row_tie : Rows.fixSetsRow.laidByTextAt .later Tryz.pinned [.handle, .data, .widerDeep] true :=
  OpenClaim.laidByTextAt_later rfl rfl tie noOwnUnsafe
theorem fixDrops_row_tie : Rows.fixDropsRow.laidByTextAt .later Tryz.pinned [.handle, .data, .widerDeep] true :=
  OpenClaim.laidByTextAt_later rfl rfl tie noOwnUnsafe
theorem layoutBackUpto_row_tie : Rows.layoutBackUptoRow.laidByTextAt .later Tryz.pinned [.handle, .data, .widerDeep] true :=
  OpenClaim.laidByTextAt_later rfl rfl tie noOwnUnsafe
theorem fixTwiceUpto_row_tie : Rows.fixTwiceUptoRow.laidByTextAt .later Tryz.pinned [.handle, .data, .widerDeep] true :=
  OpenClaim.laidByTextAt_later rfl rfl tie noOwnUnsafe
theorem fixSetsUpto_row_tie : Rows.fixSetsUptoRow.laidByTextAt .later Tryz.pinned [.handle, .data, .widerDeep] true :=
  OpenClaim.laidByTextAt_later rfl rfl tie noOwnUnsafe
theorem fixDropsUpto_row_tie : Rows.fixDropsUptoRow.laidByTextAt .later Tryz.pinned [.handle, .data, .widerDeep] true :=
  OpenClaim.laidByTextAt_later rfl rfl tie noOwnUnsafe
end Go.Proofs.YtlomecfhobehnaaGreatDoor
