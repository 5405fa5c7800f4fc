/-
  No cell of these rows narrows 'for every input' (looked for: loops, veiled, ifaces, maps, wideKeys, modest, calm, conditions, laid).
  DERIVED. THE GIVEN ROWS OF THIS SEAT. 5 by the template 'for every input the law returns true; each argument reads behind the call as it read before'; 0 by the template 'total and deterministic' (their statements: YtpmmgddfnemcpaaTotals.lean).
  GIVEN WITH THE SEED: the statements are not yours to turn. If you find one false, say at which input.
  Laid BY PROGRAM, IN A SANDBOX (cutbox-rows.mjs): the forced cells as the released guide's own fill.sh prints them over the translation 2738d9aa4a7126cc… (all of the seat's roots in one cut). By AI agents, Wed Nov 11 2026. No macro, syntax, notation, axiom, sorry.
-/
import Derived.Test.YtpmmgddfnemcpaaChecked
import GoSem.Claim
import GoSem.ClaimJoined
import GoSem.ClaimMapViews
import Derived.JoinedTies
import Derived.KernelRfl
namespace Go.Proofs.Ytpmmgddfnemcpaa
/- THE CELL 'sum', in the pinned program and in every row, IS THE sha256 OF THE DUMP (.gsa) THAT YtpmmgddfnemcpaaProg.lean LOADS. Nothing in Lean hashes anything: it is a label: what it is worth is what the hold of that sum in a sandbox is worth. -/
noncomputable def Try.pinned : Pinned := { name := "ytpmmgddfnemcpaa", sum := "2738d9aa4a7126cc79b97f2b61a5289125206dd7fc432b6972725ff66fee5007", checked := Try.checked }
namespace Rows
def none {H : Type} : Left H := { results := [], args := [] }

/-- 'escritoirekeep.PieceApart': WHATEVER THE INPUT: true; the input reads as it did. -/
def pieceApartSpec : ChangeSpec := { name := "pieceApart", fn := fun _ => fun
  | [d1, d2, d3, d4, d5, d6, d7] => { results := [.lit (.bool true)], args := [d1, d2, d3, d4, d5, d6, d7] }
  | _ => none }
def pieceApartRow : OpenClaim := { program := "ytpmmgddfnemcpaa", sum := "2738d9aa4a7126cc79b97f2b61a5289125206dd7fc432b6972725ff66fee5007", func := "escritoire/escritoirekeep.PieceApart", spec := "pieceApart", unfollowed := true, recurses := true, apart := false }
def PieceApartSaid : Prop := pieceApartRow.holds Try.pinned (OpenSpec.ofChange pieceApartSpec)

/-- ITS FALSE NEIGHBOUR: 'it returns false'. Refute it at one input. -/
def pieceApartWrong : ChangeSpec := { name := "pieceApart", fn := fun _ => fun
  | [d1, d2, d3, d4, d5, d6, d7] => { results := [.lit (.bool false)], args := [d1, d2, d3, d4, d5, d6, d7] }
  | _ => none }
def PieceApartWrongFalsely : Prop := pieceApartRow.holds Try.pinned (OpenSpec.ofChange pieceApartWrong)

/-- 'escritoirekeep.PieceParts': WHATEVER THE INPUT: true; the input reads as it did. -/
def piecePartsSpec : ChangeSpec := { name := "pieceParts", fn := fun _ => fun
  | [d1, d2, d3, d4, d5] => { results := [.lit (.bool true)], args := [d1, d2, d3, d4, d5] }
  | _ => none }
def piecePartsRow : OpenClaim := { program := "ytpmmgddfnemcpaa", sum := "2738d9aa4a7126cc79b97f2b61a5289125206dd7fc432b6972725ff66fee5007", func := "escritoire/escritoirekeep.PieceParts", spec := "pieceParts", unfollowed := true, recurses := true, apart := false }
def PiecePartsSaid : Prop := piecePartsRow.holds Try.pinned (OpenSpec.ofChange piecePartsSpec)

/-- ITS FALSE NEIGHBOUR: 'it returns false'. Refute it at one input. -/
def piecePartsWrong : ChangeSpec := { name := "pieceParts", fn := fun _ => fun
  | [d1, d2, d3, d4, d5] => { results := [.lit (.bool false)], args := [d1, d2, d3, d4, d5] }
  | _ => none }
def PiecePartsWrongFalsely : Prop := piecePartsRow.holds Try.pinned (OpenSpec.ofChange piecePartsWrong)

/-- 'escritoirekeep.RealOrder': WHATEVER THE INPUT: true; the input reads as it did. -/
def realOrderSpec : ChangeSpec := { name := "realOrder", fn := fun _ => fun
  | [d1, d2] => { results := [.lit (.bool true)], args := [d1, d2] }
  | _ => none }
def realOrderRow : OpenClaim := { program := "ytpmmgddfnemcpaa", sum := "2738d9aa4a7126cc79b97f2b61a5289125206dd7fc432b6972725ff66fee5007", func := "escritoire/escritoirekeep.RealOrder", spec := "realOrder", inPlace := ["math.Float64frombits"], apart := false }
def RealOrderSaid : Prop := realOrderRow.holds Try.pinned (OpenSpec.ofChange realOrderSpec)

/-- ITS FALSE NEIGHBOUR: 'it returns false'. Refute it at one input. -/
def realOrderWrong : ChangeSpec := { name := "realOrder", fn := fun _ => fun
  | [d1, d2] => { results := [.lit (.bool false)], args := [d1, d2] }
  | _ => none }
def RealOrderWrongFalsely : Prop := realOrderRow.holds Try.pinned (OpenSpec.ofChange realOrderWrong)

/-- 'escritoirekeep.MotionSteps': WHATEVER THE INPUT: true; the input reads as it did. -/
def motionStepsSpec : ChangeSpec := { name := "motionSteps", fn := fun _ => fun
  | [d1, d2, d3, d4] => { results := [.lit (.bool true)], args := [d1, d2, d3, d4] }
  | _ => none }
def motionStepsRow : OpenClaim := { program := "ytpmmgddfnemcpaa", sum := "2738d9aa4a7126cc79b97f2b61a5289125206dd7fc432b6972725ff66fee5007", func := "escritoire/escritoirekeep.MotionSteps", spec := "motionSteps", inPlace := ["internal/abi.NoEscape", "internal/bytealg.MakeNoZero"], apart := false }
def MotionStepsSaid : Prop := motionStepsRow.holds Try.pinned (OpenSpec.ofChange motionStepsSpec)

/-- ITS FALSE NEIGHBOUR: 'it returns false'. Refute it at one input. -/
def motionStepsWrong : ChangeSpec := { name := "motionSteps", fn := fun _ => fun
  | [d1, d2, d3, d4] => { results := [.lit (.bool false)], args := [d1, d2, d3, d4] }
  | _ => none }
def MotionStepsWrongFalsely : Prop := motionStepsRow.holds Try.pinned (OpenSpec.ofChange motionStepsWrong)

/-- 'escritoirekeep.MotionStays': WHATEVER THE INPUT: true; the input reads as it did. -/
def motionStaysSpec : ChangeSpec := { name := "motionStays", fn := fun _ => fun
  | [d1, d2, d3, d4] => { results := [.lit (.bool true)], args := [d1, d2, d3, d4] }
  | _ => none }
def motionStaysRow : OpenClaim := { program := "ytpmmgddfnemcpaa", sum := "2738d9aa4a7126cc79b97f2b61a5289125206dd7fc432b6972725ff66fee5007", func := "escritoire/escritoirekeep.MotionStays", spec := "motionStays", inPlace := ["internal/abi.NoEscape", "internal/bytealg.MakeNoZero", "internal/bytealg.IndexByteString"], unfollowed := true, recurses := true, apart := false }
def MotionStaysSaid : Prop := motionStaysRow.holds Try.pinned (OpenSpec.ofChange motionStaysSpec)

/-- ITS FALSE NEIGHBOUR: 'it returns false'. Refute it at one input. -/
def motionStaysWrong : ChangeSpec := { name := "motionStays", fn := fun _ => fun
  | [d1, d2, d3, d4] => { results := [.lit (.bool false)], args := [d1, d2, d3, d4] }
  | _ => none }
def MotionStaysWrongFalsely : Prop := motionStaysRow.holds Try.pinned (OpenSpec.ofChange motionStaysWrong)

/- THE SECOND FORM. 'bulk': how many values and letters a reading holds, each counted each time it is reached (what is shared counts as often as it is met; a slice's spare places count too). A statement '..UptoSaid' is the law's where the arguments, and the package variables that the reading takes, are together of bulk at most 1048576: NARROWER than '..Said'. Prove '..Said' where nothing that the law and all that it calls make is longer than what came in: it says more and counts as full. Else prove '..UptoSaid'. A law counts once. -/
mutual
def uptoBulk {H : Type} : DataW H → Nat
  | .lit (.string bytes) => bytes.length + 1
  | .lit _ => 1
  | .nil => 1
  | .ptr d => uptoBulk d + 1
  | .slice elems spare => uptoBulkAll elems + uptoBulkAll spare + 1
  | .agg parts => uptoBulkAll parts + 1
  | .iface _ d => uptoBulk d + 1
  | .map entries => uptoBulkEntries entries + 1
  | .held _ => 1
def uptoBulkAll {H : Type} : List (DataW H) → Nat
  | [] => 0
  | d :: r => uptoBulk d + uptoBulkAll r
def uptoBulkEntries {H : Type} : List (Lit × DataW H) → Nat
  | [] => 0
  | x :: r => uptoBulkEntry x + uptoBulkEntries r
def uptoBulkEntry {H : Type} : Lit × DataW H → Nat
  | (.string bytes, d) => bytes.length + uptoBulk d + 1
  | (_, d) => uptoBulk d + 1
 end
def uptoSmall : (H : Type) → List (DataW H) → Bool := fun _ ds => decide (uptoBulkAll ds ≤ 1048576)
def OpenSpec.upto (s : _root_.Go.ChangeSpec) : _root_.Go.OpenSpec := { _root_.Go.OpenSpec.ofChange s with cond := some uptoSmall }

/-- 'escritoirekeep.PieceApart', WHERE WHAT IT READS IS OF BULK AT MOST 1048576: true; the input reads as it did. -/
def pieceApartUptoRow : OpenClaim := { program := "ytpmmgddfnemcpaa", sum := "2738d9aa4a7126cc79b97f2b61a5289125206dd7fc432b6972725ff66fee5007", func := "escritoire/escritoirekeep.PieceApart", spec := "pieceApart", unfollowed := true, recurses := true, apart := false, narrowed := true }
def PieceApartUptoSaid : Prop := pieceApartUptoRow.holds Try.pinned (OpenSpec.upto pieceApartSpec)

/-- 'escritoirekeep.PieceParts', WHERE WHAT IT READS IS OF BULK AT MOST 1048576: true; the input reads as it did. -/
def piecePartsUptoRow : OpenClaim := { program := "ytpmmgddfnemcpaa", sum := "2738d9aa4a7126cc79b97f2b61a5289125206dd7fc432b6972725ff66fee5007", func := "escritoire/escritoirekeep.PieceParts", spec := "pieceParts", unfollowed := true, recurses := true, apart := false, narrowed := true }
def PiecePartsUptoSaid : Prop := piecePartsUptoRow.holds Try.pinned (OpenSpec.upto piecePartsSpec)

/-- 'escritoirekeep.RealOrder', WHERE WHAT IT READS IS OF BULK AT MOST 1048576: true; the input reads as it did. -/
def realOrderUptoRow : OpenClaim := { program := "ytpmmgddfnemcpaa", sum := "2738d9aa4a7126cc79b97f2b61a5289125206dd7fc432b6972725ff66fee5007", func := "escritoire/escritoirekeep.RealOrder", spec := "realOrder", inPlace := ["math.Float64frombits"], apart := false, narrowed := true }
def RealOrderUptoSaid : Prop := realOrderUptoRow.holds Try.pinned (OpenSpec.upto realOrderSpec)

/-- 'escritoirekeep.MotionSteps', WHERE WHAT IT READS IS OF BULK AT MOST 1048576: true; the input reads as it did. -/
def motionStepsUptoRow : OpenClaim := { program := "ytpmmgddfnemcpaa", sum := "2738d9aa4a7126cc79b97f2b61a5289125206dd7fc432b6972725ff66fee5007", func := "escritoire/escritoirekeep.MotionSteps", spec := "motionSteps", inPlace := ["internal/abi.NoEscape", "internal/bytealg.MakeNoZero"], apart := false, narrowed := true }
def MotionStepsUptoSaid : Prop := motionStepsUptoRow.holds Try.pinned (OpenSpec.upto motionStepsSpec)

/-- 'escritoirekeep.MotionStays', WHERE WHAT IT READS IS OF BULK AT MOST 1048576: true; the input reads as it did. -/
def motionStaysUptoRow : OpenClaim := { program := "ytpmmgddfnemcpaa", sum := "2738d9aa4a7126cc79b97f2b61a5289125206dd7fc432b6972725ff66fee5007", func := "escritoire/escritoirekeep.MotionStays", spec := "motionStays", inPlace := ["internal/abi.NoEscape", "internal/bytealg.MakeNoZero", "internal/bytealg.IndexByteString"], unfollowed := true, recurses := true, apart := false, narrowed := true }
def MotionStaysUptoSaid : Prop := motionStaysUptoRow.holds Try.pinned (OpenSpec.upto motionStaysSpec)

end Rows
end Go.Proofs.Ytpmmgddfnemcpaa
