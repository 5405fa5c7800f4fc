/-
  DERIVED. GIVEN WITH THE SEED: THE CARDS: each row of YtlpkebngehmimaaGreatDoorRows.lean that lists a variable, with what it lists TIED to the program's text (the seventh form; the later family's looks); each row that meets fmt, with fmt's text TOLD by the authors' own Lean function (tested against real Go, not proved from fmt's source: count such statements apart). THE CARD IS WHAT COUNTS. Prove the row's statement (the work); the ties are given (YtlpkebngehmimaaGreatDoorTie.lean); close each card by the builder's one call (the guide's Derived/Test/ToyasCard.lean, 'card_holds'). Laid BY PROGRAM, IN A SANDBOX (cutbox-door.mjs). By AI agents, Wed Nov 11 2026. No macro, syntax, notation, axiom, sorry.
-/
import Derived.Test.YtlpkebngehmimaaGreatDoorRows
import GoSem.ClaimSeven
namespace Go.Proofs.YtlpkebngehmimaaGreatDoor
namespace Rows

/-- THE TIED CARD OF 'escritoirekeep.TypesMore'. -/
def typesMoreCard : Claim7 := { stood := { row := typesMoreRow, standIns := [], harness := (true, "72de6ce6d7cdd5a9218636dbdf06a5c85a1c6c2ce3cb70faa13cc827a16b021c"), looks := true }, kinds := [], alts := [], laidByText := true, laidKinds := [.handle, .data, .widerDeep], laidTests := true, laidLooks := .later }
def TypesMoreCardSaid : Prop := Claim7.holds Tryz.pinned (.plain (OpenSpec.ofChange typesMoreSpec)) typesMoreCard

/-- THE TIED CARD OF 'escritoirekeep.LayoutBack'. -/
def layoutBackCard : Claim7 := { stood := { row := layoutBackRow, standIns := [], harness := (true, "72de6ce6d7cdd5a9218636dbdf06a5c85a1c6c2ce3cb70faa13cc827a16b021c"), looks := true }, kinds := [], alts := [], laidByText := true, laidKinds := [.handle, .data, .widerDeep], laidTests := true, laidLooks := .later }
def LayoutBackCardSaid : Prop := Claim7.holds Tryz.pinned (.plain (OpenSpec.ofChange layoutBackSpec)) layoutBackCard

/-- THE TIED CARD OF 'escritoirekeep.LayoutTiles'. -/
def layoutTilesCard : Claim7 := { stood := { row := layoutTilesRow, standIns := [], harness := (true, "72de6ce6d7cdd5a9218636dbdf06a5c85a1c6c2ce3cb70faa13cc827a16b021c"), looks := true }, kinds := [], alts := [], laidByText := true, laidKinds := [.handle, .data, .widerDeep], laidTests := true, laidLooks := .later }
def LayoutTilesCardSaid : Prop := Claim7.holds Tryz.pinned (.plain (OpenSpec.ofChange layoutTilesSpec)) layoutTilesCard

/-- THE SECOND FORM's CARD OF 'escritoirekeep.TypesMore'. -/
def typesMoreUptoCard : Claim7 := { stood := { row := typesMoreUptoRow, standIns := [], harness := (true, "72de6ce6d7cdd5a9218636dbdf06a5c85a1c6c2ce3cb70faa13cc827a16b021c"), looks := true }, kinds := [], alts := [], laidByText := true, laidKinds := [.handle, .data, .widerDeep], laidTests := true, laidLooks := .later }
def TypesMoreUptoCardSaid : Prop := Claim7.holds Tryz.pinned (.plain (OpenSpec.upto typesMoreSpec)) typesMoreUptoCard

/-- THE SECOND FORM's CARD OF 'escritoirekeep.LayoutBack'. -/
def layoutBackUptoCard : Claim7 := { stood := { row := layoutBackUptoRow, standIns := [], harness := (true, "72de6ce6d7cdd5a9218636dbdf06a5c85a1c6c2ce3cb70faa13cc827a16b021c"), looks := true }, kinds := [], alts := [], laidByText := true, laidKinds := [.handle, .data, .widerDeep], laidTests := true, laidLooks := .later }
def LayoutBackUptoCardSaid : Prop := Claim7.holds Tryz.pinned (.plain (OpenSpec.upto layoutBackSpec)) layoutBackUptoCard

/-- THE SECOND FORM's CARD OF 'escritoirekeep.LayoutTiles'. -/
def layoutTilesUptoCard : Claim7 := { stood := { row := layoutTilesUptoRow, standIns := [], harness := (true, "72de6ce6d7cdd5a9218636dbdf06a5c85a1c6c2ce3cb70faa13cc827a16b021c"), looks := true }, kinds := [], alts := [], laidByText := true, laidKinds := [.handle, .data, .widerDeep], laidTests := true, laidLooks := .later }
def LayoutTilesUptoCardSaid : Prop := Claim7.holds Tryz.pinned (.plain (OpenSpec.upto layoutTilesSpec)) layoutTilesUptoCard
end Rows
end Go.Proofs.YtlpkebngehmimaaGreatDoor
