/-
  DERIVED. GIVEN WITH THE SEED: THE CARDS: each row of YtnmbakibiaedhaaDoorRows.lean that lists a variable, with what it lists TIED to the program's text (the seventh form; the later family's looks); each row that meets fmt, with fmt's text TOLD by the authors' own Lean function (tested against real Go, not proved from fmt's source: count such statements apart). THE CARD IS WHAT COUNTS. Prove the row's statement (the work); the ties are given (YtnmbakibiaedhaaDoorTie.lean); close each card by the builder's one call (the guide's Derived/Test/ToyasCard.lean, 'card_holds'). Laid BY PROGRAM, IN A SANDBOX (cutbox-door.mjs). By AI agents, Wed Nov 11 2026. No macro, syntax, notation, axiom, sorry.
-/
import Derived.Test.YtnmbakibiaedhaaDoorRows
import GoSem.ClaimSeven
namespace Go.Proofs.YtnmbakibiaedhaaDoor
namespace Rows

/-- THE TIED CARD OF 'escritoirekeep.ExprAgain'. -/
def exprAgainCard : Claim7 := { stood := { row := exprAgainRow, standIns := [], harness := (true, "f20f2cb01d15a21a0103b50e2a4758cd038d4a02a8e702fc6aa5dedac9f1ffb2"), looks := true }, kinds := [], alts := [], laidByText := true, laidKinds := [.handle, .data, .widerDeep], laidTests := true, laidLooks := .later }
def ExprAgainCardSaid : Prop := Claim7.holds Tryd.pinned (.plain (OpenSpec.ofChange exprAgainSpec)) exprAgainCard

/-- THE TIED CARD OF 'escritoirekeep.ExprNames'. -/
def exprNamesCard : Claim7 := { stood := { row := exprNamesRow, standIns := [], harness := (true, "f20f2cb01d15a21a0103b50e2a4758cd038d4a02a8e702fc6aa5dedac9f1ffb2"), looks := true }, kinds := [], alts := [], laidByText := true, laidKinds := [.handle, .data, .widerDeep], laidTests := true, laidLooks := .later }
def ExprNamesCardSaid : Prop := Claim7.holds Tryd.pinned (.plain (OpenSpec.ofChange exprNamesSpec)) exprNamesCard

/-- THE TIED CARD OF 'escritoirekeep.TmplAgain'. -/
def tmplAgainCard : Claim7 := { stood := { row := tmplAgainRow, standIns := [], harness := (true, "f20f2cb01d15a21a0103b50e2a4758cd038d4a02a8e702fc6aa5dedac9f1ffb2"), looks := true }, kinds := [], alts := [], laidByText := true, laidKinds := [.handle, .data, .widerDeep], laidTests := true, laidLooks := .later }
def TmplAgainCardSaid : Prop := Claim7.holds Tryd.pinned (.plain (OpenSpec.ofChange tmplAgainSpec)) tmplAgainCard

/-- THE TIED CARD OF 'escritoirekeep.TmplPieces'. -/
def tmplPiecesCard : Claim7 := { stood := { row := tmplPiecesRow, standIns := [], harness := (true, "f20f2cb01d15a21a0103b50e2a4758cd038d4a02a8e702fc6aa5dedac9f1ffb2"), looks := true }, kinds := [], alts := [], laidByText := true, laidKinds := [.handle, .data, .widerDeep], laidTests := true, laidLooks := .later }
def TmplPiecesCardSaid : Prop := Claim7.holds Tryd.pinned (.plain (OpenSpec.ofChange tmplPiecesSpec)) tmplPiecesCard

/-- THE TIED CARD OF 'escritoirekeep.TypesNames'. -/
def typesNamesCard : Claim7 := { stood := { row := typesNamesRow, standIns := [], harness := (true, "f20f2cb01d15a21a0103b50e2a4758cd038d4a02a8e702fc6aa5dedac9f1ffb2"), looks := true }, kinds := [], alts := [], laidByText := true, laidKinds := [.handle, .data, .widerDeep], laidTests := true, laidLooks := .later }
def TypesNamesCardSaid : Prop := Claim7.holds Tryd.pinned (.plain (OpenSpec.ofChange typesNamesSpec)) typesNamesCard

/-- THE TIED CARD OF 'escritoirekeep.ExBlanks'. -/
def exBlanksCard : Claim7 := { stood := { row := exBlanksRow, standIns := [], harness := (true, "f20f2cb01d15a21a0103b50e2a4758cd038d4a02a8e702fc6aa5dedac9f1ffb2"), looks := true }, kinds := [], alts := [], laidByText := true, laidKinds := [.data, .handle, .pinned], laidTests := true, laidLooks := .later }
def ExBlanksCardSaid : Prop := Claim7.holds Tryd.pinned (.plain (OpenSpec.ofChange exBlanksSpec)) exBlanksCard

/-- THE TIED CARD OF 'escritoirekeep.ShowSees'. -/
def showSeesCard : Claim7 := { stood := { row := showSeesRow, standIns := [], harness := (true, "f20f2cb01d15a21a0103b50e2a4758cd038d4a02a8e702fc6aa5dedac9f1ffb2"), looks := true }, kinds := [], alts := [], laidByText := true, laidKinds := [.data, .data, .data, .data, .pinned, .pinned, .pinned, .pinned, .pinned, .pinned], laidTests := true, laidLooks := .later }
def ShowSeesCardSaid : Prop := Claim7.holds Tryd.pinned (.plain (OpenSpec.ofChange showSeesSpec)) showSeesCard

/-- THE SECOND FORM's CARD OF 'escritoirekeep.ExprAgain'. -/
def exprAgainUptoCard : Claim7 := { stood := { row := exprAgainUptoRow, standIns := [], harness := (true, "f20f2cb01d15a21a0103b50e2a4758cd038d4a02a8e702fc6aa5dedac9f1ffb2"), looks := true }, kinds := [], alts := [], laidByText := true, laidKinds := [.handle, .data, .widerDeep], laidTests := true, laidLooks := .later }
def ExprAgainUptoCardSaid : Prop := Claim7.holds Tryd.pinned (.plain (OpenSpec.upto exprAgainSpec)) exprAgainUptoCard

/-- THE SECOND FORM's CARD OF 'escritoirekeep.ExprNames'. -/
def exprNamesUptoCard : Claim7 := { stood := { row := exprNamesUptoRow, standIns := [], harness := (true, "f20f2cb01d15a21a0103b50e2a4758cd038d4a02a8e702fc6aa5dedac9f1ffb2"), looks := true }, kinds := [], alts := [], laidByText := true, laidKinds := [.handle, .data, .widerDeep], laidTests := true, laidLooks := .later }
def ExprNamesUptoCardSaid : Prop := Claim7.holds Tryd.pinned (.plain (OpenSpec.upto exprNamesSpec)) exprNamesUptoCard

/-- THE SECOND FORM's CARD OF 'escritoirekeep.TmplAgain'. -/
def tmplAgainUptoCard : Claim7 := { stood := { row := tmplAgainUptoRow, standIns := [], harness := (true, "f20f2cb01d15a21a0103b50e2a4758cd038d4a02a8e702fc6aa5dedac9f1ffb2"), looks := true }, kinds := [], alts := [], laidByText := true, laidKinds := [.handle, .data, .widerDeep], laidTests := true, laidLooks := .later }
def TmplAgainUptoCardSaid : Prop := Claim7.holds Tryd.pinned (.plain (OpenSpec.upto tmplAgainSpec)) tmplAgainUptoCard

/-- THE SECOND FORM's CARD OF 'escritoirekeep.TmplPieces'. -/
def tmplPiecesUptoCard : Claim7 := { stood := { row := tmplPiecesUptoRow, standIns := [], harness := (true, "f20f2cb01d15a21a0103b50e2a4758cd038d4a02a8e702fc6aa5dedac9f1ffb2"), looks := true }, kinds := [], alts := [], laidByText := true, laidKinds := [.handle, .data, .widerDeep], laidTests := true, laidLooks := .later }
def TmplPiecesUptoCardSaid : Prop := Claim7.holds Tryd.pinned (.plain (OpenSpec.upto tmplPiecesSpec)) tmplPiecesUptoCard

/-- THE SECOND FORM's CARD OF 'escritoirekeep.TypesNames'. -/
def typesNamesUptoCard : Claim7 := { stood := { row := typesNamesUptoRow, standIns := [], harness := (true, "f20f2cb01d15a21a0103b50e2a4758cd038d4a02a8e702fc6aa5dedac9f1ffb2"), looks := true }, kinds := [], alts := [], laidByText := true, laidKinds := [.handle, .data, .widerDeep], laidTests := true, laidLooks := .later }
def TypesNamesUptoCardSaid : Prop := Claim7.holds Tryd.pinned (.plain (OpenSpec.upto typesNamesSpec)) typesNamesUptoCard

/-- THE SECOND FORM's CARD OF 'escritoirekeep.ExBlanks'. -/
def exBlanksUptoCard : Claim7 := { stood := { row := exBlanksUptoRow, standIns := [], harness := (true, "f20f2cb01d15a21a0103b50e2a4758cd038d4a02a8e702fc6aa5dedac9f1ffb2"), looks := true }, kinds := [], alts := [], laidByText := true, laidKinds := [.data, .handle, .pinned], laidTests := true, laidLooks := .later }
def ExBlanksUptoCardSaid : Prop := Claim7.holds Tryd.pinned (.plain (OpenSpec.upto exBlanksSpec)) exBlanksUptoCard

/-- THE SECOND FORM's CARD OF 'escritoirekeep.ShowSees'. -/
def showSeesUptoCard : Claim7 := { stood := { row := showSeesUptoRow, standIns := [], harness := (true, "f20f2cb01d15a21a0103b50e2a4758cd038d4a02a8e702fc6aa5dedac9f1ffb2"), looks := true }, kinds := [], alts := [], laidByText := true, laidKinds := [.data, .data, .data, .data, .pinned, .pinned, .pinned, .pinned, .pinned, .pinned], laidTests := true, laidLooks := .later }
def ShowSeesUptoCardSaid : Prop := Claim7.holds Tryd.pinned (.plain (OpenSpec.upto showSeesSpec)) showSeesUptoCard
end Rows
end Go.Proofs.YtnmbakibiaedhaaDoor
