/-
  DERIVED. GIVEN WITH THE SEED: THE CARDS: each row of YtnldobfafaajjaaDoorRows.lean that lists a variable, with what it lists TIED to the program's text (the seventh form; the later family's looks); each row that meets fmt, with fmt's text TOLD by the authors' own Lean function (tested against real Go, not proved from fmt's source: count such statements apart). THE CARD IS WHAT COUNTS. Prove the row's statement (the work); the ties are given (YtnldobfafaajjaaDoorTie.lean); close each card by the builder's one call (the guide's Derived/Test/ToyasCard.lean, 'card_holds'). Laid BY PROGRAM, IN A SANDBOX (cutbox-door.mjs). By AI agents, Wed Nov 11 2026. No macro, syntax, notation, axiom, sorry.
-/
import Derived.Test.YtnldobfafaajjaaDoorRows
import GoSem.ClaimSeven
namespace Go.Proofs.YtnldobfafaajjaaDoor
namespace Rows

/-- THE TIED CARD OF 'escritoirekeep.LexAgain'. -/
def lexAgainCard : Claim7 := { stood := { row := lexAgainRow, standIns := [], harness := (true, "8412425133bd4e78d47ea86ea6bef8fe7d4c06000d0affdeedd509f40e9867f4"), looks := true }, kinds := [], alts := [], laidByText := true, laidKinds := [.data], laidTests := true, laidLooks := .later }
def LexAgainCardSaid : Prop := Claim7.holds Tryd.pinned (.plain (OpenSpec.ofChange lexAgainSpec)) lexAgainCard

/-- THE TIED CARD OF 'escritoirekeep.TextWhole'. -/
def textWholeCard : Claim7 := { stood := { row := textWholeRow, standIns := [], harness := (true, "8412425133bd4e78d47ea86ea6bef8fe7d4c06000d0affdeedd509f40e9867f4"), looks := true }, kinds := [], alts := [], laidByText := true, laidKinds := [.data, .pinned], laidTests := true, laidLooks := .later }
def TextWholeCardSaid : Prop := Claim7.holds Tryd.pinned (.plain (OpenSpec.ofChange textWholeSpec)) textWholeCard

/-- THE TIED CARD OF 'escritoirekeep.TextBack'. -/
def textBackCard : Claim7 := { stood := { row := textBackRow, standIns := [], harness := (true, "8412425133bd4e78d47ea86ea6bef8fe7d4c06000d0affdeedd509f40e9867f4"), looks := true }, kinds := [], alts := [], laidByText := true, laidKinds := [.data, .handle, .pinned], laidTests := true, laidLooks := .later }
def TextBackCardSaid : Prop := Claim7.holds Tryd.pinned (.plain (OpenSpec.ofChange textBackSpec)) textBackCard

/-- THE TIED CARD OF 'escritoirekeep.DigitsShort'. -/
def digitsShortCard : Claim7 := { stood := { row := digitsShortRow, standIns := [], harness := (true, "8412425133bd4e78d47ea86ea6bef8fe7d4c06000d0affdeedd509f40e9867f4"), looks := true }, kinds := [], alts := [], laidByText := true, laidKinds := [.handle], laidTests := true, laidLooks := .later }
def DigitsShortCardSaid : Prop := Claim7.holds Tryd.pinned (.plain (OpenSpec.ofChange digitsShortSpec)) digitsShortCard

/-- THE TIED CARD OF 'escritoirekeep.DigitsPairs'. -/
def digitsPairsCard : Claim7 := { stood := { row := digitsPairsRow, standIns := [], harness := (true, "8412425133bd4e78d47ea86ea6bef8fe7d4c06000d0affdeedd509f40e9867f4"), looks := true }, kinds := [], alts := [], laidByText := true, laidKinds := [.handle], laidTests := true, laidLooks := .later }
def DigitsPairsCardSaid : Prop := Claim7.holds Tryd.pinned (.plain (OpenSpec.ofChange digitsPairsSpec)) digitsPairsCard

/-- THE TIED CARD OF 'escritoirekeep.DigitsBack'. -/
def digitsBackCard : Claim7 := { stood := { row := digitsBackRow, standIns := [], harness := (true, "8412425133bd4e78d47ea86ea6bef8fe7d4c06000d0affdeedd509f40e9867f4"), looks := true }, kinds := [], alts := [], laidByText := true, laidKinds := [.data, .handle, .pinned, .pinned], laidTests := true, laidLooks := .later }
def DigitsBackCardSaid : Prop := Claim7.holds Tryd.pinned (.plain (OpenSpec.ofChange digitsBackSpec)) digitsBackCard

/-- THE TIED CARD OF 'escritoirekeep.RealNext'. -/
def realNextCard : Claim7 := { stood := { row := realNextRow, standIns := [], harness := (true, "8412425133bd4e78d47ea86ea6bef8fe7d4c06000d0affdeedd509f40e9867f4"), looks := true }, kinds := [], alts := [], laidByText := true, laidKinds := [.handle], laidTests := true, laidLooks := .later }
def RealNextCardSaid : Prop := Claim7.holds Tryd.pinned (.plain (OpenSpec.ofChange realNextSpec)) realNextCard

/-- THE SECOND FORM's CARD OF 'escritoirekeep.LexAgain'. -/
def lexAgainUptoCard : Claim7 := { stood := { row := lexAgainUptoRow, standIns := [], harness := (true, "8412425133bd4e78d47ea86ea6bef8fe7d4c06000d0affdeedd509f40e9867f4"), looks := true }, kinds := [], alts := [], laidByText := true, laidKinds := [.data], laidTests := true, laidLooks := .later }
def LexAgainUptoCardSaid : Prop := Claim7.holds Tryd.pinned (.plain (OpenSpec.upto lexAgainSpec)) lexAgainUptoCard

/-- THE SECOND FORM's CARD OF 'escritoirekeep.TextWhole'. -/
def textWholeUptoCard : Claim7 := { stood := { row := textWholeUptoRow, standIns := [], harness := (true, "8412425133bd4e78d47ea86ea6bef8fe7d4c06000d0affdeedd509f40e9867f4"), looks := true }, kinds := [], alts := [], laidByText := true, laidKinds := [.data, .pinned], laidTests := true, laidLooks := .later }
def TextWholeUptoCardSaid : Prop := Claim7.holds Tryd.pinned (.plain (OpenSpec.upto textWholeSpec)) textWholeUptoCard

/-- THE SECOND FORM's CARD OF 'escritoirekeep.TextBack'. -/
def textBackUptoCard : Claim7 := { stood := { row := textBackUptoRow, standIns := [], harness := (true, "8412425133bd4e78d47ea86ea6bef8fe7d4c06000d0affdeedd509f40e9867f4"), looks := true }, kinds := [], alts := [], laidByText := true, laidKinds := [.data, .handle, .pinned], laidTests := true, laidLooks := .later }
def TextBackUptoCardSaid : Prop := Claim7.holds Tryd.pinned (.plain (OpenSpec.upto textBackSpec)) textBackUptoCard

/-- THE SECOND FORM's CARD OF 'escritoirekeep.DigitsShort'. -/
def digitsShortUptoCard : Claim7 := { stood := { row := digitsShortUptoRow, standIns := [], harness := (true, "8412425133bd4e78d47ea86ea6bef8fe7d4c06000d0affdeedd509f40e9867f4"), looks := true }, kinds := [], alts := [], laidByText := true, laidKinds := [.handle], laidTests := true, laidLooks := .later }
def DigitsShortUptoCardSaid : Prop := Claim7.holds Tryd.pinned (.plain (OpenSpec.upto digitsShortSpec)) digitsShortUptoCard

/-- THE SECOND FORM's CARD OF 'escritoirekeep.DigitsPairs'. -/
def digitsPairsUptoCard : Claim7 := { stood := { row := digitsPairsUptoRow, standIns := [], harness := (true, "8412425133bd4e78d47ea86ea6bef8fe7d4c06000d0affdeedd509f40e9867f4"), looks := true }, kinds := [], alts := [], laidByText := true, laidKinds := [.handle], laidTests := true, laidLooks := .later }
def DigitsPairsUptoCardSaid : Prop := Claim7.holds Tryd.pinned (.plain (OpenSpec.upto digitsPairsSpec)) digitsPairsUptoCard

/-- THE SECOND FORM's CARD OF 'escritoirekeep.DigitsBack'. -/
def digitsBackUptoCard : Claim7 := { stood := { row := digitsBackUptoRow, standIns := [], harness := (true, "8412425133bd4e78d47ea86ea6bef8fe7d4c06000d0affdeedd509f40e9867f4"), looks := true }, kinds := [], alts := [], laidByText := true, laidKinds := [.data, .handle, .pinned, .pinned], laidTests := true, laidLooks := .later }
def DigitsBackUptoCardSaid : Prop := Claim7.holds Tryd.pinned (.plain (OpenSpec.upto digitsBackSpec)) digitsBackUptoCard

/-- THE SECOND FORM's CARD OF 'escritoirekeep.RealNext'. -/
def realNextUptoCard : Claim7 := { stood := { row := realNextUptoRow, standIns := [], harness := (true, "8412425133bd4e78d47ea86ea6bef8fe7d4c06000d0affdeedd509f40e9867f4"), looks := true }, kinds := [], alts := [], laidByText := true, laidKinds := [.handle], laidTests := true, laidLooks := .later }
def RealNextUptoCardSaid : Prop := Claim7.holds Tryd.pinned (.plain (OpenSpec.upto realNextSpec)) realNextUptoCard
end Rows
end Go.Proofs.YtnldobfafaajjaaDoor
