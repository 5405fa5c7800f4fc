/-
  DERIVED. GIVEN WITH THE SEED: THE PROGRAM's TIES (one call each: nine closed facts by the kernel) AND EACH ROW's TIE, after the 31st guide's Derived/Test/Toyas{Tie, Card}.lean. No idea stands in it: it is a product of the set-up. Laid BY PROGRAM, IN A SANDBOX (cutbox-door.mjs). By AI agents, Wed Nov 11 2026. No macro, syntax, notation, axiom, sorry.
-/
import Derived.Test.YtfdmgeloghpodaaDoorRows
import Derived.LaidByTextLater
import Derived.SevenTiedAt
import Derived.LaidSub
import Derived.LaidOnce
namespace Go.Proofs.YtfdmgeloghpodaaDoor
open Go
set_option maxRecDepth 100000
theorem seatTie1 : Tryd.prog.laidByTextLater [("errors.errorType", Rows.laid_errors_errorType), ("escritoire/lex.marks", Rows.laid_escritoire_lex_marks), ("escritoire/expr.levels", Rows.laid_escritoire_expr_levels)] [.handle, .data, .widerDeep] true :=
  Program.laidByTextLater_by_one 29 8 19 (by kernel_rfl) (by kernel_rfl) (by kernel_rfl) (by kernel_rfl) (by kernel_rfl) (by kernel_rfl) (fun _ _ => by kernel_rfl)
theorem noOwnUnsafe : Tryd.pinned.checked.prog.headLifts.contains "ownunsafe" = false := by kernel_rfl
theorem tie : Tryd.prog.laidByTextLater [("errors.errorType", Rows.laid_errors_errorType), ("escritoire/lex.marks", Rows.laid_escritoire_lex_marks), ("escritoire/expr.levels", Rows.laid_escritoire_expr_levels)] [.handle, .data, .widerDeep] true :=
  Program.laidByTextLater.sub seatTie1 ["errors.errorType", "escritoire/lex.marks", "escritoire/expr.levels"] (by kernel_rfl) (by kernel_rfl)
theorem tmplAgain_row_tie : Rows.tmplAgainRow.laidByTextAt .later Tryd.pinned [.handle, .data, .widerDeep] true :=
  OpenClaim.laidByTextAt_later rfl rfl tie noOwnUnsafe
theorem tmplPieces_row_tie : Rows.tmplPiecesRow.laidByTextAt .later Tryd.pinned [.handle, .data, .widerDeep] true :=
  OpenClaim.laidByTextAt_later rfl rfl tie noOwnUnsafe
theorem typesNames_row_tie : Rows.typesNamesRow.laidByTextAt .later Tryd.pinned [.handle, .data, .widerDeep] true :=
  OpenClaim.laidByTextAt_later rfl rfl tie noOwnUnsafe
theorem tmplAgainUpto_row_tie : Rows.tmplAgainUptoRow.laidByTextAt .later Tryd.pinned [.handle, .data, .widerDeep] true :=
  OpenClaim.laidByTextAt_later rfl rfl tie noOwnUnsafe
theorem tmplPiecesUpto_row_tie : Rows.tmplPiecesUptoRow.laidByTextAt .later Tryd.pinned [.handle, .data, .widerDeep] true :=
  OpenClaim.laidByTextAt_later rfl rfl tie noOwnUnsafe
theorem typesNamesUpto_row_tie : Rows.typesNamesUptoRow.laidByTextAt .later Tryd.pinned [.handle, .data, .widerDeep] true :=
  OpenClaim.laidByTextAt_later rfl rfl tie noOwnUnsafe
end Go.Proofs.YtfdmgeloghpodaaDoor
