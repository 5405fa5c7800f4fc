/-
  No cell of these rows narrows 'for every input' (looked for: loops, veiled, ifaces, maps, wideKeys, modest, calm, conditions, laid).
  DERIVED. THE GIVEN ROWS OF THIS SEAT. 12 by the template 'for every input the law returns true; each argument reads behind the call as it read before'; 0 by the template 'total and deterministic' (their statements: YtlpockgofejogaaTotals.lean).
  GIVEN WITH THE SEED: the statements are not yours to turn. If you find one false, say at which input.
  Laid BY PROGRAM, IN A SANDBOX (cutbox-rows.mjs): the forced cells as the released guide's own fill.sh prints them over the translation 7b61c4249be33ec2… (all of the seat's roots in one cut). By AI agents, Wed Nov 11 2026. No macro, syntax, notation, axiom, sorry.
-/
import Derived.Test.YtlpockgofejogaaChecked
import GoSem.Claim
import GoSem.ClaimJoined
import GoSem.ClaimMapViews
import Derived.JoinedTies
import Derived.KernelRfl
namespace Go.Proofs.Ytlpockgofejogaa
/- THE CELL 'sum', in the pinned program and in every row, IS THE sha256 OF THE DUMP (.gsa) THAT YtlpockgofejogaaProg.lean LOADS. Nothing in Lean hashes anything: it is a label: what it is worth is what the hold of that sum in a sandbox is worth. -/
noncomputable def Try.pinned : Pinned := { name := "ytlpockgofejogaa", sum := "7b61c4249be33ec253d7dc3fe587c905f6f1cd4c344aa88d00fd7c604c6e37b2", checked := Try.checked }
namespace Rows
def none {H : Type} : Left H := { results := [], args := [] }

/-- 'escritoirekeep.WordBack': WHATEVER THE INPUT: true; the input reads as it did. -/
def wordBackSpec : ChangeSpec := { name := "wordBack", fn := fun _ => fun
  | [d1, d2, d3, d4, d5] => { results := [.lit (.bool true)], args := [d1, d2, d3, d4, d5] }
  | _ => none }
def wordBackRow : OpenClaim := { program := "ytlpockgofejogaa", sum := "7b61c4249be33ec253d7dc3fe587c905f6f1cd4c344aa88d00fd7c604c6e37b2", func := "escritoire/escritoirekeep.WordBack", spec := "wordBack", apart := false }
def WordBackSaid : Prop := wordBackRow.holds Try.pinned (OpenSpec.ofChange wordBackSpec)

/-- ITS FALSE NEIGHBOUR: 'it returns false'. Refute it at one input. -/
def wordBackWrong : ChangeSpec := { name := "wordBack", fn := fun _ => fun
  | [d1, d2, d3, d4, d5] => { results := [.lit (.bool false)], args := [d1, d2, d3, d4, d5] }
  | _ => none }
def WordBackWrongFalsely : Prop := wordBackRow.holds Try.pinned (OpenSpec.ofChange wordBackWrong)

/-- 'escritoirekeep.WordSigned': WHATEVER THE INPUT: true; the input reads as it did. -/
def wordSignedSpec : ChangeSpec := { name := "wordSigned", fn := fun _ => fun
  | [d1, d2] => { results := [.lit (.bool true)], args := [d1, d2] }
  | _ => none }
def wordSignedRow : OpenClaim := { program := "ytlpockgofejogaa", sum := "7b61c4249be33ec253d7dc3fe587c905f6f1cd4c344aa88d00fd7c604c6e37b2", func := "escritoire/escritoirekeep.WordSigned", spec := "wordSigned", apart := false }
def WordSignedSaid : Prop := wordSignedRow.holds Try.pinned (OpenSpec.ofChange wordSignedSpec)

/-- ITS FALSE NEIGHBOUR: 'it returns false'. Refute it at one input. -/
def wordSignedWrong : ChangeSpec := { name := "wordSigned", fn := fun _ => fun
  | [d1, d2] => { results := [.lit (.bool false)], args := [d1, d2] }
  | _ => none }
def WordSignedWrongFalsely : Prop := wordSignedRow.holds Try.pinned (OpenSpec.ofChange wordSignedWrong)

/-- 'escritoirekeep.WordTwice': WHATEVER THE INPUT: true; the input reads as it did. -/
def wordTwiceSpec : ChangeSpec := { name := "wordTwice", fn := fun _ => fun
  | [d1, d2] => { results := [.lit (.bool true)], args := [d1, d2] }
  | _ => none }
def wordTwiceRow : OpenClaim := { program := "ytlpockgofejogaa", sum := "7b61c4249be33ec253d7dc3fe587c905f6f1cd4c344aa88d00fd7c604c6e37b2", func := "escritoire/escritoirekeep.WordTwice", spec := "wordTwice", apart := false }
def WordTwiceSaid : Prop := wordTwiceRow.holds Try.pinned (OpenSpec.ofChange wordTwiceSpec)

/-- ITS FALSE NEIGHBOUR: 'it returns false'. Refute it at one input. -/
def wordTwiceWrong : ChangeSpec := { name := "wordTwice", fn := fun _ => fun
  | [d1, d2] => { results := [.lit (.bool false)], args := [d1, d2] }
  | _ => none }
def WordTwiceWrongFalsely : Prop := wordTwiceRow.holds Try.pinned (OpenSpec.ofChange wordTwiceWrong)

/-- 'escritoirekeep.BitsBack': WHATEVER THE INPUT: true; the input reads as it did. -/
def bitsBackSpec : ChangeSpec := { name := "bitsBack", fn := fun _ => fun
  | [d1, d2, d3, d4, d5, d6] => { results := [.lit (.bool true)], args := [d1, d2, d3, d4, d5, d6] }
  | _ => none }
def bitsBackRow : OpenClaim := { program := "ytlpockgofejogaa", sum := "7b61c4249be33ec253d7dc3fe587c905f6f1cd4c344aa88d00fd7c604c6e37b2", func := "escritoire/escritoirekeep.BitsBack", spec := "bitsBack", apart := false }
def BitsBackSaid : Prop := bitsBackRow.holds Try.pinned (OpenSpec.ofChange bitsBackSpec)

/-- ITS FALSE NEIGHBOUR: 'it returns false'. Refute it at one input. -/
def bitsBackWrong : ChangeSpec := { name := "bitsBack", fn := fun _ => fun
  | [d1, d2, d3, d4, d5, d6] => { results := [.lit (.bool false)], args := [d1, d2, d3, d4, d5, d6] }
  | _ => none }
def BitsBackWrongFalsely : Prop := bitsBackRow.holds Try.pinned (OpenSpec.ofChange bitsBackWrong)

/-- 'escritoirekeep.BitsPieces': WHATEVER THE INPUT: true; the input reads as it did. -/
def bitsPiecesSpec : ChangeSpec := { name := "bitsPieces", fn := fun _ => fun
  | [d1, d2, d3, d4] => { results := [.lit (.bool true)], args := [d1, d2, d3, d4] }
  | _ => none }
def bitsPiecesRow : OpenClaim := { program := "ytlpockgofejogaa", sum := "7b61c4249be33ec253d7dc3fe587c905f6f1cd4c344aa88d00fd7c604c6e37b2", func := "escritoire/escritoirekeep.BitsPieces", spec := "bitsPieces", apart := false }
def BitsPiecesSaid : Prop := bitsPiecesRow.holds Try.pinned (OpenSpec.ofChange bitsPiecesSpec)

/-- ITS FALSE NEIGHBOUR: 'it returns false'. Refute it at one input. -/
def bitsPiecesWrong : ChangeSpec := { name := "bitsPieces", fn := fun _ => fun
  | [d1, d2, d3, d4] => { results := [.lit (.bool false)], args := [d1, d2, d3, d4] }
  | _ => none }
def BitsPiecesWrongFalsely : Prop := bitsPiecesRow.holds Try.pinned (OpenSpec.ofChange bitsPiecesWrong)

/-- 'escritoirekeep.BitsRound': WHATEVER THE INPUT: true; the input reads as it did. -/
def bitsRoundSpec : ChangeSpec := { name := "bitsRound", fn := fun _ => fun
  | [d1, d2, d3] => { results := [.lit (.bool true)], args := [d1, d2, d3] }
  | _ => none }
def bitsRoundRow : OpenClaim := { program := "ytlpockgofejogaa", sum := "7b61c4249be33ec253d7dc3fe587c905f6f1cd4c344aa88d00fd7c604c6e37b2", func := "escritoire/escritoirekeep.BitsRound", spec := "bitsRound", apart := false }
def BitsRoundSaid : Prop := bitsRoundRow.holds Try.pinned (OpenSpec.ofChange bitsRoundSpec)

/-- ITS FALSE NEIGHBOUR: 'it returns false'. Refute it at one input. -/
def bitsRoundWrong : ChangeSpec := { name := "bitsRound", fn := fun _ => fun
  | [d1, d2, d3] => { results := [.lit (.bool false)], args := [d1, d2, d3] }
  | _ => none }
def BitsRoundWrongFalsely : Prop := bitsRoundRow.holds Try.pinned (OpenSpec.ofChange bitsRoundWrong)

/-- 'escritoirekeep.RegsNine': WHATEVER THE INPUT: true; the input reads as it did. -/
def regsNineSpec : ChangeSpec := { name := "regsNine", fn := fun _ => fun
  | [d] => { results := [.lit (.bool true)], args := [d] }
  | _ => none }
def regsNineRow : OpenClaim := { program := "ytlpockgofejogaa", sum := "7b61c4249be33ec253d7dc3fe587c905f6f1cd4c344aa88d00fd7c604c6e37b2", func := "escritoire/escritoirekeep.RegsNine", spec := "regsNine", unfollowed := true, recurses := true, apart := false }
def RegsNineSaid : Prop := regsNineRow.holds Try.pinned (OpenSpec.ofChange regsNineSpec)

/-- ITS FALSE NEIGHBOUR: 'it returns false'. Refute it at one input. -/
def regsNineWrong : ChangeSpec := { name := "regsNine", fn := fun _ => fun
  | [d] => { results := [.lit (.bool false)], args := [d] }
  | _ => none }
def RegsNineWrongFalsely : Prop := regsNineRow.holds Try.pinned (OpenSpec.ofChange regsNineWrong)

/-- 'escritoirekeep.RegsLast': WHATEVER THE INPUT: true; the input reads as it did. -/
def regsLastSpec : ChangeSpec := { name := "regsLast", fn := fun _ => fun
  | [d1, d2, d3] => { results := [.lit (.bool true)], args := [d1, d2, d3] }
  | _ => none }
def regsLastRow : OpenClaim := { program := "ytlpockgofejogaa", sum := "7b61c4249be33ec253d7dc3fe587c905f6f1cd4c344aa88d00fd7c604c6e37b2", func := "escritoire/escritoirekeep.RegsLast", spec := "regsLast", unfollowed := true, recurses := true, apart := false }
def RegsLastSaid : Prop := regsLastRow.holds Try.pinned (OpenSpec.ofChange regsLastSpec)

/-- ITS FALSE NEIGHBOUR: 'it returns false'. Refute it at one input. -/
def regsLastWrong : ChangeSpec := { name := "regsLast", fn := fun _ => fun
  | [d1, d2, d3] => { results := [.lit (.bool false)], args := [d1, d2, d3] }
  | _ => none }
def RegsLastWrongFalsely : Prop := regsLastRow.holds Try.pinned (OpenSpec.ofChange regsLastWrong)

/-- 'escritoirekeep.UndoRounds': WHATEVER THE INPUT: true; the input reads as it did. -/
def undoRoundsSpec : ChangeSpec := { name := "undoRounds", fn := fun _ => fun
  | [d1, d2, d3] => { results := [.lit (.bool true)], args := [d1, d2, d3] }
  | _ => none }
def undoRoundsRow : OpenClaim := { program := "ytlpockgofejogaa", sum := "7b61c4249be33ec253d7dc3fe587c905f6f1cd4c344aa88d00fd7c604c6e37b2", func := "escritoire/escritoirekeep.UndoRounds", spec := "undoRounds", apart := false }
def UndoRoundsSaid : Prop := undoRoundsRow.holds Try.pinned (OpenSpec.ofChange undoRoundsSpec)

/-- ITS FALSE NEIGHBOUR: 'it returns false'. Refute it at one input. -/
def undoRoundsWrong : ChangeSpec := { name := "undoRounds", fn := fun _ => fun
  | [d1, d2, d3] => { results := [.lit (.bool false)], args := [d1, d2, d3] }
  | _ => none }
def UndoRoundsWrongFalsely : Prop := undoRoundsRow.holds Try.pinned (OpenSpec.ofChange undoRoundsWrong)

/-- 'escritoirekeep.UndoAll': WHATEVER THE INPUT: true; the input reads as it did. -/
def undoAllSpec : ChangeSpec := { name := "undoAll", fn := fun _ => fun
  | [d1, d2] => { results := [.lit (.bool true)], args := [d1, d2] }
  | _ => none }
def undoAllRow : OpenClaim := { program := "ytlpockgofejogaa", sum := "7b61c4249be33ec253d7dc3fe587c905f6f1cd4c344aa88d00fd7c604c6e37b2", func := "escritoire/escritoirekeep.UndoAll", spec := "undoAll", apart := false }
def UndoAllSaid : Prop := undoAllRow.holds Try.pinned (OpenSpec.ofChange undoAllSpec)

/-- ITS FALSE NEIGHBOUR: 'it returns false'. Refute it at one input. -/
def undoAllWrong : ChangeSpec := { name := "undoAll", fn := fun _ => fun
  | [d1, d2] => { results := [.lit (.bool false)], args := [d1, d2] }
  | _ => none }
def UndoAllWrongFalsely : Prop := undoAllRow.holds Try.pinned (OpenSpec.ofChange undoAllWrong)

/-- 'escritoirekeep.KeysApart': WHATEVER THE INPUT: true; the input reads as it did. -/
def keysApartSpec : ChangeSpec := { name := "keysApart", fn := fun _ => fun
  | [d1, d2] => { results := [.lit (.bool true)], args := [d1, d2] }
  | _ => none }
def keysApartRow : OpenClaim := { program := "ytlpockgofejogaa", sum := "7b61c4249be33ec253d7dc3fe587c905f6f1cd4c344aa88d00fd7c604c6e37b2", func := "escritoire/escritoirekeep.KeysApart", spec := "keysApart", inPlace := ["internal/bytealg.IndexByteString"], unfollowed := true, recurses := true, apart := false }
def KeysApartSaid : Prop := keysApartRow.holds Try.pinned (OpenSpec.ofChange keysApartSpec)

/-- ITS FALSE NEIGHBOUR: 'it returns false'. Refute it at one input. -/
def keysApartWrong : ChangeSpec := { name := "keysApart", fn := fun _ => fun
  | [d1, d2] => { results := [.lit (.bool false)], args := [d1, d2] }
  | _ => none }
def KeysApartWrongFalsely : Prop := keysApartRow.holds Try.pinned (OpenSpec.ofChange keysApartWrong)

/-- 'escritoirekeep.KeysTimes': WHATEVER THE INPUT: true; the input reads as it did. -/
def keysTimesSpec : ChangeSpec := { name := "keysTimes", fn := fun _ => fun
  | [d1, d2, d3, d4] => { results := [.lit (.bool true)], args := [d1, d2, d3, d4] }
  | _ => none }
def keysTimesRow : OpenClaim := { program := "ytlpockgofejogaa", sum := "7b61c4249be33ec253d7dc3fe587c905f6f1cd4c344aa88d00fd7c604c6e37b2", func := "escritoire/escritoirekeep.KeysTimes", spec := "keysTimes", inPlace := ["internal/bytealg.IndexByteString"], unfollowed := true, recurses := true, apart := false }
def KeysTimesSaid : Prop := keysTimesRow.holds Try.pinned (OpenSpec.ofChange keysTimesSpec)

/-- ITS FALSE NEIGHBOUR: 'it returns false'. Refute it at one input. -/
def keysTimesWrong : ChangeSpec := { name := "keysTimes", fn := fun _ => fun
  | [d1, d2, d3, d4] => { results := [.lit (.bool false)], args := [d1, d2, d3, d4] }
  | _ => none }
def KeysTimesWrongFalsely : Prop := keysTimesRow.holds Try.pinned (OpenSpec.ofChange keysTimesWrong)

/- THE SECOND FORM. 'bulk': how many values and letters a reading holds, each counted each time it is reached (what is shared counts as often as it is met; a slice's spare places count too). A statement '..UptoSaid' is the law's where the arguments, and the package variables that the reading takes, are together of bulk at most 1048576: NARROWER than '..Said'. Prove '..Said' where nothing that the law and all that it calls make is longer than what came in: it says more and counts as full. Else prove '..UptoSaid'. A law counts once. -/
mutual
def uptoBulk {H : Type} : DataW H → Nat
  | .lit (.string bytes) => bytes.length + 1
  | .lit _ => 1
  | .nil => 1
  | .ptr d => uptoBulk d + 1
  | .slice elems spare => uptoBulkAll elems + uptoBulkAll spare + 1
  | .agg parts => uptoBulkAll parts + 1
  | .iface _ d => uptoBulk d + 1
  | .map entries => uptoBulkEntries entries + 1
  | .held _ => 1
def uptoBulkAll {H : Type} : List (DataW H) → Nat
  | [] => 0
  | d :: r => uptoBulk d + uptoBulkAll r
def uptoBulkEntries {H : Type} : List (Lit × DataW H) → Nat
  | [] => 0
  | x :: r => uptoBulkEntry x + uptoBulkEntries r
def uptoBulkEntry {H : Type} : Lit × DataW H → Nat
  | (.string bytes, d) => bytes.length + uptoBulk d + 1
  | (_, d) => uptoBulk d + 1
 end
def uptoSmall : (H : Type) → List (DataW H) → Bool := fun _ ds => decide (uptoBulkAll ds ≤ 1048576)
def OpenSpec.upto (s : _root_.Go.ChangeSpec) : _root_.Go.OpenSpec := { _root_.Go.OpenSpec.ofChange s with cond := some uptoSmall }

/-- 'escritoirekeep.WordBack', WHERE WHAT IT READS IS OF BULK AT MOST 1048576: true; the input reads as it did. -/
def wordBackUptoRow : OpenClaim := { program := "ytlpockgofejogaa", sum := "7b61c4249be33ec253d7dc3fe587c905f6f1cd4c344aa88d00fd7c604c6e37b2", func := "escritoire/escritoirekeep.WordBack", spec := "wordBack", apart := false, narrowed := true }
def WordBackUptoSaid : Prop := wordBackUptoRow.holds Try.pinned (OpenSpec.upto wordBackSpec)

/-- 'escritoirekeep.WordSigned', WHERE WHAT IT READS IS OF BULK AT MOST 1048576: true; the input reads as it did. -/
def wordSignedUptoRow : OpenClaim := { program := "ytlpockgofejogaa", sum := "7b61c4249be33ec253d7dc3fe587c905f6f1cd4c344aa88d00fd7c604c6e37b2", func := "escritoire/escritoirekeep.WordSigned", spec := "wordSigned", apart := false, narrowed := true }
def WordSignedUptoSaid : Prop := wordSignedUptoRow.holds Try.pinned (OpenSpec.upto wordSignedSpec)

/-- 'escritoirekeep.WordTwice', WHERE WHAT IT READS IS OF BULK AT MOST 1048576: true; the input reads as it did. -/
def wordTwiceUptoRow : OpenClaim := { program := "ytlpockgofejogaa", sum := "7b61c4249be33ec253d7dc3fe587c905f6f1cd4c344aa88d00fd7c604c6e37b2", func := "escritoire/escritoirekeep.WordTwice", spec := "wordTwice", apart := false, narrowed := true }
def WordTwiceUptoSaid : Prop := wordTwiceUptoRow.holds Try.pinned (OpenSpec.upto wordTwiceSpec)

/-- 'escritoirekeep.BitsBack', WHERE WHAT IT READS IS OF BULK AT MOST 1048576: true; the input reads as it did. -/
def bitsBackUptoRow : OpenClaim := { program := "ytlpockgofejogaa", sum := "7b61c4249be33ec253d7dc3fe587c905f6f1cd4c344aa88d00fd7c604c6e37b2", func := "escritoire/escritoirekeep.BitsBack", spec := "bitsBack", apart := false, narrowed := true }
def BitsBackUptoSaid : Prop := bitsBackUptoRow.holds Try.pinned (OpenSpec.upto bitsBackSpec)

/-- 'escritoirekeep.BitsPieces', WHERE WHAT IT READS IS OF BULK AT MOST 1048576: true; the input reads as it did. -/
def bitsPiecesUptoRow : OpenClaim := { program := "ytlpockgofejogaa", sum := "7b61c4249be33ec253d7dc3fe587c905f6f1cd4c344aa88d00fd7c604c6e37b2", func := "escritoire/escritoirekeep.BitsPieces", spec := "bitsPieces", apart := false, narrowed := true }
def BitsPiecesUptoSaid : Prop := bitsPiecesUptoRow.holds Try.pinned (OpenSpec.upto bitsPiecesSpec)

/-- 'escritoirekeep.BitsRound', WHERE WHAT IT READS IS OF BULK AT MOST 1048576: true; the input reads as it did. -/
def bitsRoundUptoRow : OpenClaim := { program := "ytlpockgofejogaa", sum := "7b61c4249be33ec253d7dc3fe587c905f6f1cd4c344aa88d00fd7c604c6e37b2", func := "escritoire/escritoirekeep.BitsRound", spec := "bitsRound", apart := false, narrowed := true }
def BitsRoundUptoSaid : Prop := bitsRoundUptoRow.holds Try.pinned (OpenSpec.upto bitsRoundSpec)

/-- 'escritoirekeep.RegsNine', WHERE WHAT IT READS IS OF BULK AT MOST 1048576: true; the input reads as it did. -/
def regsNineUptoRow : OpenClaim := { program := "ytlpockgofejogaa", sum := "7b61c4249be33ec253d7dc3fe587c905f6f1cd4c344aa88d00fd7c604c6e37b2", func := "escritoire/escritoirekeep.RegsNine", spec := "regsNine", unfollowed := true, recurses := true, apart := false, narrowed := true }
def RegsNineUptoSaid : Prop := regsNineUptoRow.holds Try.pinned (OpenSpec.upto regsNineSpec)

/-- 'escritoirekeep.RegsLast', WHERE WHAT IT READS IS OF BULK AT MOST 1048576: true; the input reads as it did. -/
def regsLastUptoRow : OpenClaim := { program := "ytlpockgofejogaa", sum := "7b61c4249be33ec253d7dc3fe587c905f6f1cd4c344aa88d00fd7c604c6e37b2", func := "escritoire/escritoirekeep.RegsLast", spec := "regsLast", unfollowed := true, recurses := true, apart := false, narrowed := true }
def RegsLastUptoSaid : Prop := regsLastUptoRow.holds Try.pinned (OpenSpec.upto regsLastSpec)

/-- 'escritoirekeep.UndoRounds', WHERE WHAT IT READS IS OF BULK AT MOST 1048576: true; the input reads as it did. -/
def undoRoundsUptoRow : OpenClaim := { program := "ytlpockgofejogaa", sum := "7b61c4249be33ec253d7dc3fe587c905f6f1cd4c344aa88d00fd7c604c6e37b2", func := "escritoire/escritoirekeep.UndoRounds", spec := "undoRounds", apart := false, narrowed := true }
def UndoRoundsUptoSaid : Prop := undoRoundsUptoRow.holds Try.pinned (OpenSpec.upto undoRoundsSpec)

/-- 'escritoirekeep.UndoAll', WHERE WHAT IT READS IS OF BULK AT MOST 1048576: true; the input reads as it did. -/
def undoAllUptoRow : OpenClaim := { program := "ytlpockgofejogaa", sum := "7b61c4249be33ec253d7dc3fe587c905f6f1cd4c344aa88d00fd7c604c6e37b2", func := "escritoire/escritoirekeep.UndoAll", spec := "undoAll", apart := false, narrowed := true }
def UndoAllUptoSaid : Prop := undoAllUptoRow.holds Try.pinned (OpenSpec.upto undoAllSpec)

/-- 'escritoirekeep.KeysApart', WHERE WHAT IT READS IS OF BULK AT MOST 1048576: true; the input reads as it did. -/
def keysApartUptoRow : OpenClaim := { program := "ytlpockgofejogaa", sum := "7b61c4249be33ec253d7dc3fe587c905f6f1cd4c344aa88d00fd7c604c6e37b2", func := "escritoire/escritoirekeep.KeysApart", spec := "keysApart", inPlace := ["internal/bytealg.IndexByteString"], unfollowed := true, recurses := true, apart := false, narrowed := true }
def KeysApartUptoSaid : Prop := keysApartUptoRow.holds Try.pinned (OpenSpec.upto keysApartSpec)

/-- 'escritoirekeep.KeysTimes', WHERE WHAT IT READS IS OF BULK AT MOST 1048576: true; the input reads as it did. -/
def keysTimesUptoRow : OpenClaim := { program := "ytlpockgofejogaa", sum := "7b61c4249be33ec253d7dc3fe587c905f6f1cd4c344aa88d00fd7c604c6e37b2", func := "escritoire/escritoirekeep.KeysTimes", spec := "keysTimes", inPlace := ["internal/bytealg.IndexByteString"], unfollowed := true, recurses := true, apart := false, narrowed := true }
def KeysTimesUptoSaid : Prop := keysTimesUptoRow.holds Try.pinned (OpenSpec.upto keysTimesSpec)

end Rows
end Go.Proofs.Ytlpockgofejogaa
