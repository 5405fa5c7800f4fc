/-
  DERIVED. GIVEN WITH THE SEED: THE CARDS: each row of YtenhblpegobbjaaDoorRows.lean that lists a variable, with what it lists TIED to the program's text (the seventh form; the later family's looks); each row that meets fmt, with fmt's text TOLD by the authors' own Lean function (tested against real Go, not proved from fmt's source: count such statements apart). THE CARD IS WHAT COUNTS. Prove the row's statement (the work); the ties are given (YtenhblpegobbjaaDoorTie.lean); close each card by the builder's one call (the guide's Derived/Test/ToyasCard.lean, 'card_holds'). Laid BY PROGRAM, IN A SANDBOX (cutbox-door.mjs). By AI agents, Wed Nov 11 2026. No macro, syntax, notation, axiom, sorry.
-/
import Derived.Test.YtenhblpegobbjaaDoorRows
import GoSem.ClaimSeven
namespace Go.Proofs.YtenhblpegobbjaaDoor
namespace Rows

/-- THE TIED CARD OF 'escritoirekeep.XxdBack'. -/
def xxdBackCard : Claim7 := { stood := { row := xxdBackRow, standIns := [], harness := (true, "63f301aaeec1596687e9a2a21e2d52e1d30f2f14c5306e1fa4b14001511ab8d6"), looks := false }, kinds := [], alts := [], laidByText := true, laidKinds := [.data, .pinned], laidTests := true, laidLooks := .later }
def XxdBackCardSaid : Prop := Claim7.holds Tryd.pinned (.plain (OpenSpec.ofChange xxdBackSpec)) xxdBackCard

/-- THE TIED CARD OF 'escritoirekeep.XxdOrder'. -/
def xxdOrderCard : Claim7 := { stood := { row := xxdOrderRow, standIns := [], harness := (true, "63f301aaeec1596687e9a2a21e2d52e1d30f2f14c5306e1fa4b14001511ab8d6"), looks := false }, kinds := [], alts := [], laidByText := true, laidKinds := [.data, .pinned], laidTests := true, laidLooks := .later }
def XxdOrderCardSaid : Prop := Claim7.holds Tryd.pinned (.plain (OpenSpec.ofChange xxdOrderSpec)) xxdOrderCard

/-- THE SECOND FORM's CARD OF 'escritoirekeep.XxdBack'. -/
def xxdBackUptoCard : Claim7 := { stood := { row := xxdBackUptoRow, standIns := [], harness := (true, "63f301aaeec1596687e9a2a21e2d52e1d30f2f14c5306e1fa4b14001511ab8d6"), looks := false }, kinds := [], alts := [], laidByText := true, laidKinds := [.data, .pinned], laidTests := true, laidLooks := .later }
def XxdBackUptoCardSaid : Prop := Claim7.holds Tryd.pinned (.plain (OpenSpec.upto xxdBackSpec)) xxdBackUptoCard

/-- THE SECOND FORM's CARD OF 'escritoirekeep.XxdOrder'. -/
def xxdOrderUptoCard : Claim7 := { stood := { row := xxdOrderUptoRow, standIns := [], harness := (true, "63f301aaeec1596687e9a2a21e2d52e1d30f2f14c5306e1fa4b14001511ab8d6"), looks := false }, kinds := [], alts := [], laidByText := true, laidKinds := [.data, .pinned], laidTests := true, laidLooks := .later }
def XxdOrderUptoCardSaid : Prop := Claim7.holds Tryd.pinned (.plain (OpenSpec.upto xxdOrderSpec)) xxdOrderUptoCard
end Rows
end Go.Proofs.YtenhblpegobbjaaDoor
