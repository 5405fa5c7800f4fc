/-
  DERIVED. GIVEN WITH THE SEED: THE CARDS: each row of YtlomecfhobehnaaGreatDoorRows.lean that lists a variable, with what it lists TIED to the program's text (the seventh form; the later family's looks); each row that meets fmt, with fmt's text TOLD by the authors' own Lean function (tested against real Go, not proved from fmt's source: count such statements apart). THE CARD IS WHAT COUNTS. Prove the row's statement (the work); the ties are given (YtlomecfhobehnaaGreatDoorTie.lean); close each card by the builder's one call (the guide's Derived/Test/ToyasCard.lean, 'card_holds'). Laid BY PROGRAM, IN A SANDBOX (cutbox-door.mjs). By AI agents, Wed Nov 11 2026. No macro, syntax, notation, axiom, sorry.
-/
import Derived.Test.YtlomecfhobehnaaGreatDoorRows
import GoSem.ClaimSeven
namespace Go.Proofs.YtlomecfhobehnaaGreatDoor
namespace Rows

/-- THE TIED CARD OF 'escritoirekeep.LayoutBack'. -/
def layoutBackCard : Claim7 := { stood := { row := layoutBackRow, standIns := [], harness := (true, "1c4e832ed758a3e69c00e069eceb36ce33e0d8524a2176de404df63cf9d4ff45"), looks := true }, kinds := [], alts := [], laidByText := true, laidKinds := [.handle, .data, .widerDeep], laidTests := true, laidLooks := .later }
def LayoutBackCardSaid : Prop := Claim7.holds Tryz.pinned (.plain (OpenSpec.ofChange layoutBackSpec)) layoutBackCard

/-- THE TIED CARD OF 'escritoirekeep.FixTwice'. -/
def fixTwiceCard : Claim7 := { stood := { row := fixTwiceRow, standIns := [], harness := (true, "1c4e832ed758a3e69c00e069eceb36ce33e0d8524a2176de404df63cf9d4ff45"), looks := true }, kinds := [], alts := [], laidByText := true, laidKinds := [.handle, .data, .widerDeep], laidTests := true, laidLooks := .later }
def FixTwiceCardSaid : Prop := Claim7.holds Tryz.pinned (.plain (OpenSpec.ofChange fixTwiceSpec)) fixTwiceCard

/-- THE TIED CARD OF 'escritoirekeep.FixSets'. -/
def fixSetsCard : Claim7 := { stood := { row := fixSetsRow, standIns := [], harness := (true, "1c4e832ed758a3e69c00e069eceb36ce33e0d8524a2176de404df63cf9d4ff45"), looks := true }, kinds := [], alts := [], laidByText := true, laidKinds := [.handle, .data, .widerDeep], laidTests := true, laidLooks := .later }
def FixSetsCardSaid : Prop := Claim7.holds Tryz.pinned (.plain (OpenSpec.ofChange fixSetsSpec)) fixSetsCard

/-- THE TIED CARD OF 'escritoirekeep.FixDrops'. -/
def fixDropsCard : Claim7 := { stood := { row := fixDropsRow, standIns := [], harness := (true, "1c4e832ed758a3e69c00e069eceb36ce33e0d8524a2176de404df63cf9d4ff45"), looks := true }, kinds := [], alts := [], laidByText := true, laidKinds := [.handle, .data, .widerDeep], laidTests := true, laidLooks := .later }
def FixDropsCardSaid : Prop := Claim7.holds Tryz.pinned (.plain (OpenSpec.ofChange fixDropsSpec)) fixDropsCard

/-- THE SECOND FORM's CARD OF 'escritoirekeep.LayoutBack'. -/
def layoutBackUptoCard : Claim7 := { stood := { row := layoutBackUptoRow, standIns := [], harness := (true, "1c4e832ed758a3e69c00e069eceb36ce33e0d8524a2176de404df63cf9d4ff45"), looks := true }, kinds := [], alts := [], laidByText := true, laidKinds := [.handle, .data, .widerDeep], laidTests := true, laidLooks := .later }
def LayoutBackUptoCardSaid : Prop := Claim7.holds Tryz.pinned (.plain (OpenSpec.upto layoutBackSpec)) layoutBackUptoCard

/-- THE SECOND FORM's CARD OF 'escritoirekeep.FixTwice'. -/
def fixTwiceUptoCard : Claim7 := { stood := { row := fixTwiceUptoRow, standIns := [], harness := (true, "1c4e832ed758a3e69c00e069eceb36ce33e0d8524a2176de404df63cf9d4ff45"), looks := true }, kinds := [], alts := [], laidByText := true, laidKinds := [.handle, .data, .widerDeep], laidTests := true, laidLooks := .later }
def FixTwiceUptoCardSaid : Prop := Claim7.holds Tryz.pinned (.plain (OpenSpec.upto fixTwiceSpec)) fixTwiceUptoCard

/-- THE SECOND FORM's CARD OF 'escritoirekeep.FixSets'. -/
def fixSetsUptoCard : Claim7 := { stood := { row := fixSetsUptoRow, standIns := [], harness := (true, "1c4e832ed758a3e69c00e069eceb36ce33e0d8524a2176de404df63cf9d4ff45"), looks := true }, kinds := [], alts := [], laidByText := true, laidKinds := [.handle, .data, .widerDeep], laidTests := true, laidLooks := .later }
def FixSetsUptoCardSaid : Prop := Claim7.holds Tryz.pinned (.plain (OpenSpec.upto fixSetsSpec)) fixSetsUptoCard

/-- THE SECOND FORM's CARD OF 'escritoirekeep.FixDrops'. -/
def fixDropsUptoCard : Claim7 := { stood := { row := fixDropsUptoRow, standIns := [], harness := (true, "1c4e832ed758a3e69c00e069eceb36ce33e0d8524a2176de404df63cf9d4ff45"), looks := true }, kinds := [], alts := [], laidByText := true, laidKinds := [.handle, .data, .widerDeep], laidTests := true, laidLooks := .later }
def FixDropsUptoCardSaid : Prop := Claim7.holds Tryz.pinned (.plain (OpenSpec.upto fixDropsSpec)) fixDropsUptoCard
end Rows
end Go.Proofs.YtlomecfhobehnaaGreatDoor
