/-
  No cell of these rows narrows 'for every input' (looked for: loops, veiled, ifaces, maps, wideKeys, modest, calm, conditions, laid).
  DERIVED. THE GIVEN ROWS OF THIS SEAT. 10 by the template 'for every input the law returns true; each argument reads behind the call as it read before'; 0 by the template 'total and deterministic' (their statements: YtenhblpegobbjaaTotals.lean).
  GIVEN WITH THE SEED: the statements are not yours to turn. If you find one false, say at which input.
  Laid BY PROGRAM, IN A SANDBOX (cutbox-rows.mjs): the forced cells as the released guide's own fill.sh prints them over the translation cdc1901c498e0e12… (all of the seat's roots in one cut). By AI agents, Wed Nov 11 2026. No macro, syntax, notation, axiom, sorry.
-/
import Derived.Test.YtenhblpegobbjaaChecked
import GoSem.Claim
import GoSem.ClaimJoined
import GoSem.ClaimMapViews
import Derived.JoinedTies
import Derived.KernelRfl
namespace Go.Proofs.Ytenhblpegobbjaa
/- THE CELL 'sum', in the pinned program and in every row, IS THE sha256 OF THE DUMP (.gsa) THAT YtenhblpegobbjaaProg.lean LOADS. Nothing in Lean hashes anything: it is a label: what it is worth is what the hold of that sum in a sandbox is worth. -/
noncomputable def Try.pinned : Pinned := { name := "ytenhblpegobbjaa", sum := "cdc1901c498e0e127ac0aaa66dc3ae61d61edad77c4c59887b14374283deb967", checked := Try.checked }
namespace Rows
def none {H : Type} : Left H := { results := [], args := [] }

/-- 'escritoirekeep.PieceApart': WHATEVER THE INPUT: true; the input reads as it did. -/
def pieceApartSpec : ChangeSpec := { name := "pieceApart", fn := fun _ => fun
  | [d1, d2, d3, d4, d5, d6, d7] => { results := [.lit (.bool true)], args := [d1, d2, d3, d4, d5, d6, d7] }
  | _ => none }
def pieceApartRow : OpenClaim := { program := "ytenhblpegobbjaa", sum := "cdc1901c498e0e127ac0aaa66dc3ae61d61edad77c4c59887b14374283deb967", func := "escritoire/escritoirekeep.PieceApart", spec := "pieceApart", unfollowed := true, recurses := true, plainKeys := false, apart := false }
def PieceApartSaid : Prop := pieceApartRow.holds Try.pinned (OpenSpec.ofChange pieceApartSpec)

/-- ITS FALSE NEIGHBOUR: 'it returns false'. Refute it at one input. -/
def pieceApartWrong : ChangeSpec := { name := "pieceApart", fn := fun _ => fun
  | [d1, d2, d3, d4, d5, d6, d7] => { results := [.lit (.bool false)], args := [d1, d2, d3, d4, d5, d6, d7] }
  | _ => none }
def PieceApartWrongFalsely : Prop := pieceApartRow.holds Try.pinned (OpenSpec.ofChange pieceApartWrong)

/-- 'escritoirekeep.PieceParts': WHATEVER THE INPUT: true; the input reads as it did. -/
def piecePartsSpec : ChangeSpec := { name := "pieceParts", fn := fun _ => fun
  | [d1, d2, d3, d4, d5] => { results := [.lit (.bool true)], args := [d1, d2, d3, d4, d5] }
  | _ => none }
def piecePartsRow : OpenClaim := { program := "ytenhblpegobbjaa", sum := "cdc1901c498e0e127ac0aaa66dc3ae61d61edad77c4c59887b14374283deb967", func := "escritoire/escritoirekeep.PieceParts", spec := "pieceParts", unfollowed := true, recurses := true, plainKeys := false, apart := false }
def PiecePartsSaid : Prop := piecePartsRow.holds Try.pinned (OpenSpec.ofChange piecePartsSpec)

/-- ITS FALSE NEIGHBOUR: 'it returns false'. Refute it at one input. -/
def piecePartsWrong : ChangeSpec := { name := "pieceParts", fn := fun _ => fun
  | [d1, d2, d3, d4, d5] => { results := [.lit (.bool false)], args := [d1, d2, d3, d4, d5] }
  | _ => none }
def PiecePartsWrongFalsely : Prop := piecePartsRow.holds Try.pinned (OpenSpec.ofChange piecePartsWrong)

/-- 'escritoirekeep.MotionStays': WHATEVER THE INPUT: true; the input reads as it did. -/
def motionStaysSpec : ChangeSpec := { name := "motionStays", fn := fun _ => fun
  | [d1, d2, d3, d4] => { results := [.lit (.bool true)], args := [d1, d2, d3, d4] }
  | _ => none }
def motionStaysRow : OpenClaim := { program := "ytenhblpegobbjaa", sum := "cdc1901c498e0e127ac0aaa66dc3ae61d61edad77c4c59887b14374283deb967", func := "escritoire/escritoirekeep.MotionStays", spec := "motionStays", inPlace := ["internal/abi.NoEscape", "internal/bytealg.MakeNoZero", "internal/bytealg.IndexByteString"], unfollowed := true, recurses := true, plainKeys := false, apart := false }
def MotionStaysSaid : Prop := motionStaysRow.holds Try.pinned (OpenSpec.ofChange motionStaysSpec)

/-- ITS FALSE NEIGHBOUR: 'it returns false'. Refute it at one input. -/
def motionStaysWrong : ChangeSpec := { name := "motionStays", fn := fun _ => fun
  | [d1, d2, d3, d4] => { results := [.lit (.bool false)], args := [d1, d2, d3, d4] }
  | _ => none }
def MotionStaysWrongFalsely : Prop := motionStaysRow.holds Try.pinned (OpenSpec.ofChange motionStaysWrong)

/-- 'escritoirekeep.FindEach': WHATEVER THE INPUT: true; the input reads as it did. -/
def findEachSpec : ChangeSpec := { name := "findEach", fn := fun _ => fun
  | [d1, d2, d3] => { results := [.lit (.bool true)], args := [d1, d2, d3] }
  | _ => none }
def findEachRow : OpenClaim := { program := "ytenhblpegobbjaa", sum := "cdc1901c498e0e127ac0aaa66dc3ae61d61edad77c4c59887b14374283deb967", func := "escritoire/escritoirekeep.FindEach", spec := "findEach", unfollowed := true, recurses := true, plainKeys := false, apart := false }
def FindEachSaid : Prop := findEachRow.holds Try.pinned (OpenSpec.ofChange findEachSpec)

/-- ITS FALSE NEIGHBOUR: 'it returns false'. Refute it at one input. -/
def findEachWrong : ChangeSpec := { name := "findEach", fn := fun _ => fun
  | [d1, d2, d3] => { results := [.lit (.bool false)], args := [d1, d2, d3] }
  | _ => none }
def FindEachWrongFalsely : Prop := findEachRow.holds Try.pinned (OpenSpec.ofChange findEachWrong)

/-- 'escritoirekeep.HuffApart': WHATEVER THE INPUT: true; the input reads as it did. -/
def huffApartSpec : ChangeSpec := { name := "huffApart", fn := fun _ => fun
  | [d1, d2, d3] => { results := [.lit (.bool true)], args := [d1, d2, d3] }
  | _ => none }
def huffApartRow : OpenClaim := { program := "ytenhblpegobbjaa", sum := "cdc1901c498e0e127ac0aaa66dc3ae61d61edad77c4c59887b14374283deb967", func := "escritoire/escritoirekeep.HuffApart", spec := "huffApart", unfollowed := true, recurses := true, plainKeys := false, apart := false }
def HuffApartSaid : Prop := huffApartRow.holds Try.pinned (OpenSpec.ofChange huffApartSpec)

/-- ITS FALSE NEIGHBOUR: 'it returns false'. Refute it at one input. -/
def huffApartWrong : ChangeSpec := { name := "huffApart", fn := fun _ => fun
  | [d1, d2, d3] => { results := [.lit (.bool false)], args := [d1, d2, d3] }
  | _ => none }
def HuffApartWrongFalsely : Prop := huffApartRow.holds Try.pinned (OpenSpec.ofChange huffApartWrong)

/-- 'escritoirekeep.HuffKraft': WHATEVER THE INPUT: true; the input reads as it did. -/
def huffKraftSpec : ChangeSpec := { name := "huffKraft", fn := fun _ => fun
  | [d] => { results := [.lit (.bool true)], args := [d] }
  | _ => none }
def huffKraftRow : OpenClaim := { program := "ytenhblpegobbjaa", sum := "cdc1901c498e0e127ac0aaa66dc3ae61d61edad77c4c59887b14374283deb967", func := "escritoire/escritoirekeep.HuffKraft", spec := "huffKraft", unfollowed := true, recurses := true, plainKeys := false, apart := false }
def HuffKraftSaid : Prop := huffKraftRow.holds Try.pinned (OpenSpec.ofChange huffKraftSpec)

/-- ITS FALSE NEIGHBOUR: 'it returns false'. Refute it at one input. -/
def huffKraftWrong : ChangeSpec := { name := "huffKraft", fn := fun _ => fun
  | [d] => { results := [.lit (.bool false)], args := [d] }
  | _ => none }
def HuffKraftWrongFalsely : Prop := huffKraftRow.holds Try.pinned (OpenSpec.ofChange huffKraftWrong)

/-- 'escritoirekeep.HuffLeast': WHATEVER THE INPUT: true; the input reads as it did. -/
def huffLeastSpec : ChangeSpec := { name := "huffLeast", fn := fun _ => fun
  | [d1, d2] => { results := [.lit (.bool true)], args := [d1, d2] }
  | _ => none }
def huffLeastRow : OpenClaim := { program := "ytenhblpegobbjaa", sum := "cdc1901c498e0e127ac0aaa66dc3ae61d61edad77c4c59887b14374283deb967", func := "escritoire/escritoirekeep.HuffLeast", spec := "huffLeast", unfollowed := true, recurses := true, plainKeys := false, apart := false }
def HuffLeastSaid : Prop := huffLeastRow.holds Try.pinned (OpenSpec.ofChange huffLeastSpec)

/-- ITS FALSE NEIGHBOUR: 'it returns false'. Refute it at one input. -/
def huffLeastWrong : ChangeSpec := { name := "huffLeast", fn := fun _ => fun
  | [d1, d2] => { results := [.lit (.bool false)], args := [d1, d2] }
  | _ => none }
def HuffLeastWrongFalsely : Prop := huffLeastRow.holds Try.pinned (OpenSpec.ofChange huffLeastWrong)

/-- 'escritoirekeep.HuffBack': WHATEVER THE INPUT: true; the input reads as it did. -/
def huffBackSpec : ChangeSpec := { name := "huffBack", fn := fun _ => fun
  | [d1, d2] => { results := [.lit (.bool true)], args := [d1, d2] }
  | _ => none }
def huffBackRow : OpenClaim := { program := "ytenhblpegobbjaa", sum := "cdc1901c498e0e127ac0aaa66dc3ae61d61edad77c4c59887b14374283deb967", func := "escritoire/escritoirekeep.HuffBack", spec := "huffBack", unfollowed := true, recurses := true, plainKeys := false, apart := false }
def HuffBackSaid : Prop := huffBackRow.holds Try.pinned (OpenSpec.ofChange huffBackSpec)

/-- ITS FALSE NEIGHBOUR: 'it returns false'. Refute it at one input. -/
def huffBackWrong : ChangeSpec := { name := "huffBack", fn := fun _ => fun
  | [d1, d2] => { results := [.lit (.bool false)], args := [d1, d2] }
  | _ => none }
def HuffBackWrongFalsely : Prop := huffBackRow.holds Try.pinned (OpenSpec.ofChange huffBackWrong)

/-- 'escritoirekeep.SuffixFinds': WHATEVER THE INPUT: true; the input reads as it did. -/
def suffixFindsSpec : ChangeSpec := { name := "suffixFinds", fn := fun _ => fun
  | [d1, d2, d3] => { results := [.lit (.bool true)], args := [d1, d2, d3] }
  | _ => none }
def suffixFindsRow : OpenClaim := { program := "ytenhblpegobbjaa", sum := "cdc1901c498e0e127ac0aaa66dc3ae61d61edad77c4c59887b14374283deb967", func := "escritoire/escritoirekeep.SuffixFinds", spec := "suffixFinds", inPlace := ["internal/bytealg.abigen_runtime_cmpstring"], unfollowed := true, recurses := true, plainKeys := false, apart := false }
def SuffixFindsSaid : Prop := suffixFindsRow.holds Try.pinned (OpenSpec.ofChange suffixFindsSpec)

/-- ITS FALSE NEIGHBOUR: 'it returns false'. Refute it at one input. -/
def suffixFindsWrong : ChangeSpec := { name := "suffixFinds", fn := fun _ => fun
  | [d1, d2, d3] => { results := [.lit (.bool false)], args := [d1, d2, d3] }
  | _ => none }
def SuffixFindsWrongFalsely : Prop := suffixFindsRow.holds Try.pinned (OpenSpec.ofChange suffixFindsWrong)

/-- 'escritoirekeep.SuffixOrder': WHATEVER THE INPUT: true; the input reads as it did. -/
def suffixOrderSpec : ChangeSpec := { name := "suffixOrder", fn := fun _ => fun
  | [d] => { results := [.lit (.bool true)], args := [d] }
  | _ => none }
def suffixOrderRow : OpenClaim := { program := "ytenhblpegobbjaa", sum := "cdc1901c498e0e127ac0aaa66dc3ae61d61edad77c4c59887b14374283deb967", func := "escritoire/escritoirekeep.SuffixOrder", spec := "suffixOrder", unfollowed := true, recurses := true, plainKeys := false, apart := false }
def SuffixOrderSaid : Prop := suffixOrderRow.holds Try.pinned (OpenSpec.ofChange suffixOrderSpec)

/-- ITS FALSE NEIGHBOUR: 'it returns false'. Refute it at one input. -/
def suffixOrderWrong : ChangeSpec := { name := "suffixOrder", fn := fun _ => fun
  | [d] => { results := [.lit (.bool false)], args := [d] }
  | _ => none }
def SuffixOrderWrongFalsely : Prop := suffixOrderRow.holds Try.pinned (OpenSpec.ofChange suffixOrderWrong)

/- THE SECOND FORM. 'bulk': how many values and letters a reading holds, each counted each time it is reached (what is shared counts as often as it is met; a slice's spare places count too). A statement '..UptoSaid' is the law's where the arguments, and the package variables that the reading takes, are together of bulk at most 1048576: NARROWER than '..Said'. Prove '..Said' where nothing that the law and all that it calls make is longer than what came in: it says more and counts as full. Else prove '..UptoSaid'. A law counts once. -/
mutual
def uptoBulk {H : Type} : DataW H → Nat
  | .lit (.string bytes) => bytes.length + 1
  | .lit _ => 1
  | .nil => 1
  | .ptr d => uptoBulk d + 1
  | .slice elems spare => uptoBulkAll elems + uptoBulkAll spare + 1
  | .agg parts => uptoBulkAll parts + 1
  | .iface _ d => uptoBulk d + 1
  | .map entries => uptoBulkEntries entries + 1
  | .held _ => 1
def uptoBulkAll {H : Type} : List (DataW H) → Nat
  | [] => 0
  | d :: r => uptoBulk d + uptoBulkAll r
def uptoBulkEntries {H : Type} : List (Lit × DataW H) → Nat
  | [] => 0
  | x :: r => uptoBulkEntry x + uptoBulkEntries r
def uptoBulkEntry {H : Type} : Lit × DataW H → Nat
  | (.string bytes, d) => bytes.length + uptoBulk d + 1
  | (_, d) => uptoBulk d + 1
 end
def uptoSmall : (H : Type) → List (DataW H) → Bool := fun _ ds => decide (uptoBulkAll ds ≤ 1048576)
def OpenSpec.upto (s : _root_.Go.ChangeSpec) : _root_.Go.OpenSpec := { _root_.Go.OpenSpec.ofChange s with cond := some uptoSmall }

/-- 'escritoirekeep.PieceApart', WHERE WHAT IT READS IS OF BULK AT MOST 1048576: true; the input reads as it did. -/
def pieceApartUptoRow : OpenClaim := { program := "ytenhblpegobbjaa", sum := "cdc1901c498e0e127ac0aaa66dc3ae61d61edad77c4c59887b14374283deb967", func := "escritoire/escritoirekeep.PieceApart", spec := "pieceApart", unfollowed := true, recurses := true, plainKeys := false, apart := false, narrowed := true }
def PieceApartUptoSaid : Prop := pieceApartUptoRow.holds Try.pinned (OpenSpec.upto pieceApartSpec)

/-- 'escritoirekeep.PieceParts', WHERE WHAT IT READS IS OF BULK AT MOST 1048576: true; the input reads as it did. -/
def piecePartsUptoRow : OpenClaim := { program := "ytenhblpegobbjaa", sum := "cdc1901c498e0e127ac0aaa66dc3ae61d61edad77c4c59887b14374283deb967", func := "escritoire/escritoirekeep.PieceParts", spec := "pieceParts", unfollowed := true, recurses := true, plainKeys := false, apart := false, narrowed := true }
def PiecePartsUptoSaid : Prop := piecePartsUptoRow.holds Try.pinned (OpenSpec.upto piecePartsSpec)

/-- 'escritoirekeep.MotionStays', WHERE WHAT IT READS IS OF BULK AT MOST 1048576: true; the input reads as it did. -/
def motionStaysUptoRow : OpenClaim := { program := "ytenhblpegobbjaa", sum := "cdc1901c498e0e127ac0aaa66dc3ae61d61edad77c4c59887b14374283deb967", func := "escritoire/escritoirekeep.MotionStays", spec := "motionStays", inPlace := ["internal/abi.NoEscape", "internal/bytealg.MakeNoZero", "internal/bytealg.IndexByteString"], unfollowed := true, recurses := true, plainKeys := false, apart := false, narrowed := true }
def MotionStaysUptoSaid : Prop := motionStaysUptoRow.holds Try.pinned (OpenSpec.upto motionStaysSpec)

/-- 'escritoirekeep.FindEach', WHERE WHAT IT READS IS OF BULK AT MOST 1048576: true; the input reads as it did. -/
def findEachUptoRow : OpenClaim := { program := "ytenhblpegobbjaa", sum := "cdc1901c498e0e127ac0aaa66dc3ae61d61edad77c4c59887b14374283deb967", func := "escritoire/escritoirekeep.FindEach", spec := "findEach", unfollowed := true, recurses := true, plainKeys := false, apart := false, narrowed := true }
def FindEachUptoSaid : Prop := findEachUptoRow.holds Try.pinned (OpenSpec.upto findEachSpec)

/-- 'escritoirekeep.HuffApart', WHERE WHAT IT READS IS OF BULK AT MOST 1048576: true; the input reads as it did. -/
def huffApartUptoRow : OpenClaim := { program := "ytenhblpegobbjaa", sum := "cdc1901c498e0e127ac0aaa66dc3ae61d61edad77c4c59887b14374283deb967", func := "escritoire/escritoirekeep.HuffApart", spec := "huffApart", unfollowed := true, recurses := true, plainKeys := false, apart := false, narrowed := true }
def HuffApartUptoSaid : Prop := huffApartUptoRow.holds Try.pinned (OpenSpec.upto huffApartSpec)

/-- 'escritoirekeep.HuffKraft', WHERE WHAT IT READS IS OF BULK AT MOST 1048576: true; the input reads as it did. -/
def huffKraftUptoRow : OpenClaim := { program := "ytenhblpegobbjaa", sum := "cdc1901c498e0e127ac0aaa66dc3ae61d61edad77c4c59887b14374283deb967", func := "escritoire/escritoirekeep.HuffKraft", spec := "huffKraft", unfollowed := true, recurses := true, plainKeys := false, apart := false, narrowed := true }
def HuffKraftUptoSaid : Prop := huffKraftUptoRow.holds Try.pinned (OpenSpec.upto huffKraftSpec)

/-- 'escritoirekeep.HuffLeast', WHERE WHAT IT READS IS OF BULK AT MOST 1048576: true; the input reads as it did. -/
def huffLeastUptoRow : OpenClaim := { program := "ytenhblpegobbjaa", sum := "cdc1901c498e0e127ac0aaa66dc3ae61d61edad77c4c59887b14374283deb967", func := "escritoire/escritoirekeep.HuffLeast", spec := "huffLeast", unfollowed := true, recurses := true, plainKeys := false, apart := false, narrowed := true }
def HuffLeastUptoSaid : Prop := huffLeastUptoRow.holds Try.pinned (OpenSpec.upto huffLeastSpec)

/-- 'escritoirekeep.HuffBack', WHERE WHAT IT READS IS OF BULK AT MOST 1048576: true; the input reads as it did. -/
def huffBackUptoRow : OpenClaim := { program := "ytenhblpegobbjaa", sum := "cdc1901c498e0e127ac0aaa66dc3ae61d61edad77c4c59887b14374283deb967", func := "escritoire/escritoirekeep.HuffBack", spec := "huffBack", unfollowed := true, recurses := true, plainKeys := false, apart := false, narrowed := true }
def HuffBackUptoSaid : Prop := huffBackUptoRow.holds Try.pinned (OpenSpec.upto huffBackSpec)

/-- 'escritoirekeep.SuffixFinds', WHERE WHAT IT READS IS OF BULK AT MOST 1048576: true; the input reads as it did. -/
def suffixFindsUptoRow : OpenClaim := { program := "ytenhblpegobbjaa", sum := "cdc1901c498e0e127ac0aaa66dc3ae61d61edad77c4c59887b14374283deb967", func := "escritoire/escritoirekeep.SuffixFinds", spec := "suffixFinds", inPlace := ["internal/bytealg.abigen_runtime_cmpstring"], unfollowed := true, recurses := true, plainKeys := false, apart := false, narrowed := true }
def SuffixFindsUptoSaid : Prop := suffixFindsUptoRow.holds Try.pinned (OpenSpec.upto suffixFindsSpec)

/-- 'escritoirekeep.SuffixOrder', WHERE WHAT IT READS IS OF BULK AT MOST 1048576: true; the input reads as it did. -/
def suffixOrderUptoRow : OpenClaim := { program := "ytenhblpegobbjaa", sum := "cdc1901c498e0e127ac0aaa66dc3ae61d61edad77c4c59887b14374283deb967", func := "escritoire/escritoirekeep.SuffixOrder", spec := "suffixOrder", unfollowed := true, recurses := true, plainKeys := false, apart := false, narrowed := true }
def SuffixOrderUptoSaid : Prop := suffixOrderUptoRow.holds Try.pinned (OpenSpec.upto suffixOrderSpec)

end Rows
end Go.Proofs.Ytenhblpegobbjaa
