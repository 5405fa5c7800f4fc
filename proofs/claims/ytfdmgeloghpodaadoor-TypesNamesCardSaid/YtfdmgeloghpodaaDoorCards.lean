/-
  DERIVED. GIVEN WITH THE SEED: THE CARDS: each row of YtfdmgeloghpodaaDoorRows.lean that lists a variable, with what it lists TIED to the program's text (the seventh form; the later family's looks); each row that meets fmt, with fmt's text TOLD by the authors' own Lean function (tested against real Go, not proved from fmt's source: count such statements apart). THE CARD IS WHAT COUNTS. Prove the row's statement (the work); the ties are given (YtfdmgeloghpodaaDoorTie.lean); close each card by the builder's one call (the guide's Derived/Test/ToyasCard.lean, 'card_holds'). Laid BY PROGRAM, IN A SANDBOX (cutbox-door.mjs). By AI agents, Wed Nov 11 2026. No macro, syntax, notation, axiom, sorry.
-/
import Derived.Test.YtfdmgeloghpodaaDoorRows
import GoSem.ClaimSeven
namespace Go.Proofs.YtfdmgeloghpodaaDoor
namespace Rows

/-- THE TIED CARD OF 'escritoirekeep.TmplAgain'. -/
def tmplAgainCard : Claim7 := { stood := { row := tmplAgainRow, standIns := [], harness := (true, "2118f4670c9005a7dd02c691bf5cf8ca97732979c43be1c9e5a8456512f41325"), looks := true }, kinds := [], alts := [], laidByText := true, laidKinds := [.handle, .data, .widerDeep], laidTests := true, laidLooks := .later }
def TmplAgainCardSaid : Prop := Claim7.holds Tryd.pinned (.plain (OpenSpec.ofChange tmplAgainSpec)) tmplAgainCard

/-- THE TIED CARD OF 'escritoirekeep.TmplPieces'. -/
def tmplPiecesCard : Claim7 := { stood := { row := tmplPiecesRow, standIns := [], harness := (true, "2118f4670c9005a7dd02c691bf5cf8ca97732979c43be1c9e5a8456512f41325"), looks := true }, kinds := [], alts := [], laidByText := true, laidKinds := [.handle, .data, .widerDeep], laidTests := true, laidLooks := .later }
def TmplPiecesCardSaid : Prop := Claim7.holds Tryd.pinned (.plain (OpenSpec.ofChange tmplPiecesSpec)) tmplPiecesCard

/-- THE TIED CARD OF 'escritoirekeep.TypesNames'. -/
def typesNamesCard : Claim7 := { stood := { row := typesNamesRow, standIns := [], harness := (true, "2118f4670c9005a7dd02c691bf5cf8ca97732979c43be1c9e5a8456512f41325"), looks := true }, kinds := [], alts := [], laidByText := true, laidKinds := [.handle, .data, .widerDeep], laidTests := true, laidLooks := .later }
def TypesNamesCardSaid : Prop := Claim7.holds Tryd.pinned (.plain (OpenSpec.ofChange typesNamesSpec)) typesNamesCard

/-- THE SECOND FORM's CARD OF 'escritoirekeep.TmplAgain'. -/
def tmplAgainUptoCard : Claim7 := { stood := { row := tmplAgainUptoRow, standIns := [], harness := (true, "2118f4670c9005a7dd02c691bf5cf8ca97732979c43be1c9e5a8456512f41325"), looks := true }, kinds := [], alts := [], laidByText := true, laidKinds := [.handle, .data, .widerDeep], laidTests := true, laidLooks := .later }
def TmplAgainUptoCardSaid : Prop := Claim7.holds Tryd.pinned (.plain (OpenSpec.upto tmplAgainSpec)) tmplAgainUptoCard

/-- THE SECOND FORM's CARD OF 'escritoirekeep.TmplPieces'. -/
def tmplPiecesUptoCard : Claim7 := { stood := { row := tmplPiecesUptoRow, standIns := [], harness := (true, "2118f4670c9005a7dd02c691bf5cf8ca97732979c43be1c9e5a8456512f41325"), looks := true }, kinds := [], alts := [], laidByText := true, laidKinds := [.handle, .data, .widerDeep], laidTests := true, laidLooks := .later }
def TmplPiecesUptoCardSaid : Prop := Claim7.holds Tryd.pinned (.plain (OpenSpec.upto tmplPiecesSpec)) tmplPiecesUptoCard

/-- THE SECOND FORM's CARD OF 'escritoirekeep.TypesNames'. -/
def typesNamesUptoCard : Claim7 := { stood := { row := typesNamesUptoRow, standIns := [], harness := (true, "2118f4670c9005a7dd02c691bf5cf8ca97732979c43be1c9e5a8456512f41325"), looks := true }, kinds := [], alts := [], laidByText := true, laidKinds := [.handle, .data, .widerDeep], laidTests := true, laidLooks := .later }
def TypesNamesUptoCardSaid : Prop := Claim7.holds Tryd.pinned (.plain (OpenSpec.upto typesNamesSpec)) typesNamesUptoCard
end Rows
end Go.Proofs.YtfdmgeloghpodaaDoor
