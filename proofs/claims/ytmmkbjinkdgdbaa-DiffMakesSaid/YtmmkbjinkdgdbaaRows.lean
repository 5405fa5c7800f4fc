/-
  No cell of these rows narrows 'for every input' (looked for: loops, veiled, ifaces, maps, wideKeys, modest, calm, conditions, laid).
  DERIVED. THE GIVEN ROWS OF THIS SEAT. 12 by the template 'for every input the law returns true; each argument reads behind the call as it read before'; 0 by the template 'total and deterministic' (their statements: YtmmkbjinkdgdbaaTotals.lean).
  GIVEN WITH THE SEED: the statements are not yours to turn. If you find one false, say at which input.
  Laid BY PROGRAM, IN A SANDBOX (cutbox-rows.mjs): the forced cells as the released guide's own fill.sh prints them over the translation 77e7b342bf1f1cd2… (all of the seat's roots in one cut). By AI agents, Wed Nov 11 2026. No macro, syntax, notation, axiom, sorry.
-/
import Derived.Test.YtmmkbjinkdgdbaaChecked
import GoSem.Claim
import GoSem.ClaimJoined
import GoSem.ClaimMapViews
import Derived.JoinedTies
import Derived.KernelRfl
namespace Go.Proofs.Ytmmkbjinkdgdbaa
/- THE CELL 'sum', in the pinned program and in every row, IS THE sha256 OF THE DUMP (.gsa) THAT YtmmkbjinkdgdbaaProg.lean LOADS. Nothing in Lean hashes anything: it is a label: what it is worth is what the hold of that sum in a sandbox is worth. -/
noncomputable def Try.pinned : Pinned := { name := "ytmmkbjinkdgdbaa", sum := "77e7b342bf1f1cd2e2c92b4f23424ccc59c69dd295b5bb90aee0ede33d29cbf1", checked := Try.checked }
namespace Rows
def none {H : Type} : Left H := { results := [], args := [] }

/-- 'escritoirekeep.RegsNine': WHATEVER THE INPUT: true; the input reads as it did. -/
def regsNineSpec : ChangeSpec := { name := "regsNine", fn := fun _ => fun
  | [d] => { results := [.lit (.bool true)], args := [d] }
  | _ => none }
def regsNineRow : OpenClaim := { program := "ytmmkbjinkdgdbaa", sum := "77e7b342bf1f1cd2e2c92b4f23424ccc59c69dd295b5bb90aee0ede33d29cbf1", func := "escritoire/escritoirekeep.RegsNine", spec := "regsNine", unfollowed := true, recurses := true, apart := false }
def RegsNineSaid : Prop := regsNineRow.holds Try.pinned (OpenSpec.ofChange regsNineSpec)

/-- ITS FALSE NEIGHBOUR: 'it returns false'. Refute it at one input. -/
def regsNineWrong : ChangeSpec := { name := "regsNine", fn := fun _ => fun
  | [d] => { results := [.lit (.bool false)], args := [d] }
  | _ => none }
def RegsNineWrongFalsely : Prop := regsNineRow.holds Try.pinned (OpenSpec.ofChange regsNineWrong)

/-- 'escritoirekeep.RegsLast': WHATEVER THE INPUT: true; the input reads as it did. -/
def regsLastSpec : ChangeSpec := { name := "regsLast", fn := fun _ => fun
  | [d1, d2, d3] => { results := [.lit (.bool true)], args := [d1, d2, d3] }
  | _ => none }
def regsLastRow : OpenClaim := { program := "ytmmkbjinkdgdbaa", sum := "77e7b342bf1f1cd2e2c92b4f23424ccc59c69dd295b5bb90aee0ede33d29cbf1", func := "escritoire/escritoirekeep.RegsLast", spec := "regsLast", unfollowed := true, recurses := true, apart := false }
def RegsLastSaid : Prop := regsLastRow.holds Try.pinned (OpenSpec.ofChange regsLastSpec)

/-- ITS FALSE NEIGHBOUR: 'it returns false'. Refute it at one input. -/
def regsLastWrong : ChangeSpec := { name := "regsLast", fn := fun _ => fun
  | [d1, d2, d3] => { results := [.lit (.bool false)], args := [d1, d2, d3] }
  | _ => none }
def RegsLastWrongFalsely : Prop := regsLastRow.holds Try.pinned (OpenSpec.ofChange regsLastWrong)

/-- 'escritoirekeep.KeysApart': WHATEVER THE INPUT: true; the input reads as it did. -/
def keysApartSpec : ChangeSpec := { name := "keysApart", fn := fun _ => fun
  | [d1, d2] => { results := [.lit (.bool true)], args := [d1, d2] }
  | _ => none }
def keysApartRow : OpenClaim := { program := "ytmmkbjinkdgdbaa", sum := "77e7b342bf1f1cd2e2c92b4f23424ccc59c69dd295b5bb90aee0ede33d29cbf1", func := "escritoire/escritoirekeep.KeysApart", spec := "keysApart", inPlace := ["internal/bytealg.IndexByteString"], unfollowed := true, recurses := true, apart := false }
def KeysApartSaid : Prop := keysApartRow.holds Try.pinned (OpenSpec.ofChange keysApartSpec)

/-- ITS FALSE NEIGHBOUR: 'it returns false'. Refute it at one input. -/
def keysApartWrong : ChangeSpec := { name := "keysApart", fn := fun _ => fun
  | [d1, d2] => { results := [.lit (.bool false)], args := [d1, d2] }
  | _ => none }
def KeysApartWrongFalsely : Prop := keysApartRow.holds Try.pinned (OpenSpec.ofChange keysApartWrong)

/-- 'escritoirekeep.KeysTimes': WHATEVER THE INPUT: true; the input reads as it did. -/
def keysTimesSpec : ChangeSpec := { name := "keysTimes", fn := fun _ => fun
  | [d1, d2, d3, d4] => { results := [.lit (.bool true)], args := [d1, d2, d3, d4] }
  | _ => none }
def keysTimesRow : OpenClaim := { program := "ytmmkbjinkdgdbaa", sum := "77e7b342bf1f1cd2e2c92b4f23424ccc59c69dd295b5bb90aee0ede33d29cbf1", func := "escritoire/escritoirekeep.KeysTimes", spec := "keysTimes", inPlace := ["internal/bytealg.IndexByteString"], unfollowed := true, recurses := true, apart := false }
def KeysTimesSaid : Prop := keysTimesRow.holds Try.pinned (OpenSpec.ofChange keysTimesSpec)

/-- ITS FALSE NEIGHBOUR: 'it returns false'. Refute it at one input. -/
def keysTimesWrong : ChangeSpec := { name := "keysTimes", fn := fun _ => fun
  | [d1, d2, d3, d4] => { results := [.lit (.bool false)], args := [d1, d2, d3, d4] }
  | _ => none }
def KeysTimesWrongFalsely : Prop := keysTimesRow.holds Try.pinned (OpenSpec.ofChange keysTimesWrong)

/-- 'escritoirekeep.LzBack': WHATEVER THE INPUT: true; the input reads as it did. -/
def lzBackSpec : ChangeSpec := { name := "lzBack", fn := fun _ => fun
  | [d] => { results := [.lit (.bool true)], args := [d] }
  | _ => none }
def lzBackRow : OpenClaim := { program := "ytmmkbjinkdgdbaa", sum := "77e7b342bf1f1cd2e2c92b4f23424ccc59c69dd295b5bb90aee0ede33d29cbf1", func := "escritoire/escritoirekeep.LzBack", spec := "lzBack", unfollowed := true, recurses := true, apart := false }
def LzBackSaid : Prop := lzBackRow.holds Try.pinned (OpenSpec.ofChange lzBackSpec)

/-- ITS FALSE NEIGHBOUR: 'it returns false'. Refute it at one input. -/
def lzBackWrong : ChangeSpec := { name := "lzBack", fn := fun _ => fun
  | [d] => { results := [.lit (.bool false)], args := [d] }
  | _ => none }
def LzBackWrongFalsely : Prop := lzBackRow.holds Try.pinned (OpenSpec.ofChange lzBackWrong)

/-- 'escritoirekeep.RealTrue': WHATEVER THE INPUT: true; the input reads as it did. -/
def realTrueSpec : ChangeSpec := { name := "realTrue", fn := fun _ => fun
  | [d] => { results := [.lit (.bool true)], args := [d] }
  | _ => none }
def realTrueRow : OpenClaim := { program := "ytmmkbjinkdgdbaa", sum := "77e7b342bf1f1cd2e2c92b4f23424ccc59c69dd295b5bb90aee0ede33d29cbf1", func := "escritoire/escritoirekeep.RealTrue", spec := "realTrue", inPlace := ["math.Float32frombits", "math.Float64frombits", "math.Float64bits"], apart := false }
def RealTrueSaid : Prop := realTrueRow.holds Try.pinned (OpenSpec.ofChange realTrueSpec)

/-- ITS FALSE NEIGHBOUR: 'it returns false'. Refute it at one input. -/
def realTrueWrong : ChangeSpec := { name := "realTrue", fn := fun _ => fun
  | [d] => { results := [.lit (.bool false)], args := [d] }
  | _ => none }
def RealTrueWrongFalsely : Prop := realTrueRow.holds Try.pinned (OpenSpec.ofChange realTrueWrong)

/-- 'escritoirekeep.PieceApart': WHATEVER THE INPUT: true; the input reads as it did. -/
def pieceApartSpec : ChangeSpec := { name := "pieceApart", fn := fun _ => fun
  | [d1, d2, d3, d4, d5, d6, d7] => { results := [.lit (.bool true)], args := [d1, d2, d3, d4, d5, d6, d7] }
  | _ => none }
def pieceApartRow : OpenClaim := { program := "ytmmkbjinkdgdbaa", sum := "77e7b342bf1f1cd2e2c92b4f23424ccc59c69dd295b5bb90aee0ede33d29cbf1", func := "escritoire/escritoirekeep.PieceApart", spec := "pieceApart", unfollowed := true, recurses := true, apart := false }
def PieceApartSaid : Prop := pieceApartRow.holds Try.pinned (OpenSpec.ofChange pieceApartSpec)

/-- ITS FALSE NEIGHBOUR: 'it returns false'. Refute it at one input. -/
def pieceApartWrong : ChangeSpec := { name := "pieceApart", fn := fun _ => fun
  | [d1, d2, d3, d4, d5, d6, d7] => { results := [.lit (.bool false)], args := [d1, d2, d3, d4, d5, d6, d7] }
  | _ => none }
def PieceApartWrongFalsely : Prop := pieceApartRow.holds Try.pinned (OpenSpec.ofChange pieceApartWrong)

/-- 'escritoirekeep.PieceParts': WHATEVER THE INPUT: true; the input reads as it did. -/
def piecePartsSpec : ChangeSpec := { name := "pieceParts", fn := fun _ => fun
  | [d1, d2, d3, d4, d5] => { results := [.lit (.bool true)], args := [d1, d2, d3, d4, d5] }
  | _ => none }
def piecePartsRow : OpenClaim := { program := "ytmmkbjinkdgdbaa", sum := "77e7b342bf1f1cd2e2c92b4f23424ccc59c69dd295b5bb90aee0ede33d29cbf1", func := "escritoire/escritoirekeep.PieceParts", spec := "pieceParts", unfollowed := true, recurses := true, apart := false }
def PiecePartsSaid : Prop := piecePartsRow.holds Try.pinned (OpenSpec.ofChange piecePartsSpec)

/-- ITS FALSE NEIGHBOUR: 'it returns false'. Refute it at one input. -/
def piecePartsWrong : ChangeSpec := { name := "pieceParts", fn := fun _ => fun
  | [d1, d2, d3, d4, d5] => { results := [.lit (.bool false)], args := [d1, d2, d3, d4, d5] }
  | _ => none }
def PiecePartsWrongFalsely : Prop := piecePartsRow.holds Try.pinned (OpenSpec.ofChange piecePartsWrong)

/-- 'escritoirekeep.MotionStays': WHATEVER THE INPUT: true; the input reads as it did. -/
def motionStaysSpec : ChangeSpec := { name := "motionStays", fn := fun _ => fun
  | [d1, d2, d3, d4] => { results := [.lit (.bool true)], args := [d1, d2, d3, d4] }
  | _ => none }
def motionStaysRow : OpenClaim := { program := "ytmmkbjinkdgdbaa", sum := "77e7b342bf1f1cd2e2c92b4f23424ccc59c69dd295b5bb90aee0ede33d29cbf1", func := "escritoire/escritoirekeep.MotionStays", spec := "motionStays", inPlace := ["internal/abi.NoEscape", "internal/bytealg.MakeNoZero", "internal/bytealg.IndexByteString"], unfollowed := true, recurses := true, apart := false }
def MotionStaysSaid : Prop := motionStaysRow.holds Try.pinned (OpenSpec.ofChange motionStaysSpec)

/-- ITS FALSE NEIGHBOUR: 'it returns false'. Refute it at one input. -/
def motionStaysWrong : ChangeSpec := { name := "motionStays", fn := fun _ => fun
  | [d1, d2, d3, d4] => { results := [.lit (.bool false)], args := [d1, d2, d3, d4] }
  | _ => none }
def MotionStaysWrongFalsely : Prop := motionStaysRow.holds Try.pinned (OpenSpec.ofChange motionStaysWrong)

/-- 'escritoirekeep.DiffMetric': WHATEVER THE INPUT: true; the input reads as it did. -/
def diffMetricSpec : ChangeSpec := { name := "diffMetric", fn := fun _ => fun
  | [d1, d2, d3] => { results := [.lit (.bool true)], args := [d1, d2, d3] }
  | _ => none }
def diffMetricRow : OpenClaim := { program := "ytmmkbjinkdgdbaa", sum := "77e7b342bf1f1cd2e2c92b4f23424ccc59c69dd295b5bb90aee0ede33d29cbf1", func := "escritoire/escritoirekeep.DiffMetric", spec := "diffMetric", inPlace := ["internal/abi.NoEscape"], apart := false }
def DiffMetricSaid : Prop := diffMetricRow.holds Try.pinned (OpenSpec.ofChange diffMetricSpec)

/-- ITS FALSE NEIGHBOUR: 'it returns false'. Refute it at one input. -/
def diffMetricWrong : ChangeSpec := { name := "diffMetric", fn := fun _ => fun
  | [d1, d2, d3] => { results := [.lit (.bool false)], args := [d1, d2, d3] }
  | _ => none }
def DiffMetricWrongFalsely : Prop := diffMetricRow.holds Try.pinned (OpenSpec.ofChange diffMetricWrong)

/-- 'escritoirekeep.DiffAlone': WHATEVER THE INPUT: true; the input reads as it did. -/
def diffAloneSpec : ChangeSpec := { name := "diffAlone", fn := fun _ => fun
  | [d1, d2, d3] => { results := [.lit (.bool true)], args := [d1, d2, d3] }
  | _ => none }
def diffAloneRow : OpenClaim := { program := "ytmmkbjinkdgdbaa", sum := "77e7b342bf1f1cd2e2c92b4f23424ccc59c69dd295b5bb90aee0ede33d29cbf1", func := "escritoire/escritoirekeep.DiffAlone", spec := "diffAlone", inPlace := ["internal/abi.NoEscape"], apart := false }
def DiffAloneSaid : Prop := diffAloneRow.holds Try.pinned (OpenSpec.ofChange diffAloneSpec)

/-- ITS FALSE NEIGHBOUR: 'it returns false'. Refute it at one input. -/
def diffAloneWrong : ChangeSpec := { name := "diffAlone", fn := fun _ => fun
  | [d1, d2, d3] => { results := [.lit (.bool false)], args := [d1, d2, d3] }
  | _ => none }
def DiffAloneWrongFalsely : Prop := diffAloneRow.holds Try.pinned (OpenSpec.ofChange diffAloneWrong)

/-- 'escritoirekeep.DiffMakes': WHATEVER THE INPUT: true; the input reads as it did. -/
def diffMakesSpec : ChangeSpec := { name := "diffMakes", fn := fun _ => fun
  | [d1, d2] => { results := [.lit (.bool true)], args := [d1, d2] }
  | _ => none }
def diffMakesRow : OpenClaim := { program := "ytmmkbjinkdgdbaa", sum := "77e7b342bf1f1cd2e2c92b4f23424ccc59c69dd295b5bb90aee0ede33d29cbf1", func := "escritoire/escritoirekeep.DiffMakes", spec := "diffMakes", inPlace := ["internal/abi.NoEscape"], apart := false }
def DiffMakesSaid : Prop := diffMakesRow.holds Try.pinned (OpenSpec.ofChange diffMakesSpec)

/-- ITS FALSE NEIGHBOUR: 'it returns false'. Refute it at one input. -/
def diffMakesWrong : ChangeSpec := { name := "diffMakes", fn := fun _ => fun
  | [d1, d2] => { results := [.lit (.bool false)], args := [d1, d2] }
  | _ => none }
def DiffMakesWrongFalsely : Prop := diffMakesRow.holds Try.pinned (OpenSpec.ofChange diffMakesWrong)

/- THE SECOND FORM. 'bulk': how many values and letters a reading holds, each counted each time it is reached (what is shared counts as often as it is met; a slice's spare places count too). A statement '..UptoSaid' is the law's where the arguments, and the package variables that the reading takes, are together of bulk at most 1048576: NARROWER than '..Said'. Prove '..Said' where nothing that the law and all that it calls make is longer than what came in: it says more and counts as full. Else prove '..UptoSaid'. A law counts once. -/
mutual
def uptoBulk {H : Type} : DataW H → Nat
  | .lit (.string bytes) => bytes.length + 1
  | .lit _ => 1
  | .nil => 1
  | .ptr d => uptoBulk d + 1
  | .slice elems spare => uptoBulkAll elems + uptoBulkAll spare + 1
  | .agg parts => uptoBulkAll parts + 1
  | .iface _ d => uptoBulk d + 1
  | .map entries => uptoBulkEntries entries + 1
  | .held _ => 1
def uptoBulkAll {H : Type} : List (DataW H) → Nat
  | [] => 0
  | d :: r => uptoBulk d + uptoBulkAll r
def uptoBulkEntries {H : Type} : List (Lit × DataW H) → Nat
  | [] => 0
  | x :: r => uptoBulkEntry x + uptoBulkEntries r
def uptoBulkEntry {H : Type} : Lit × DataW H → Nat
  | (.string bytes, d) => bytes.length + uptoBulk d + 1
  | (_, d) => uptoBulk d + 1
 end
def uptoSmall : (H : Type) → List (DataW H) → Bool := fun _ ds => decide (uptoBulkAll ds ≤ 1048576)
def OpenSpec.upto (s : _root_.Go.ChangeSpec) : _root_.Go.OpenSpec := { _root_.Go.OpenSpec.ofChange s with cond := some uptoSmall }

/-- 'escritoirekeep.RegsNine', WHERE WHAT IT READS IS OF BULK AT MOST 1048576: true; the input reads as it did. -/
def regsNineUptoRow : OpenClaim := { program := "ytmmkbjinkdgdbaa", sum := "77e7b342bf1f1cd2e2c92b4f23424ccc59c69dd295b5bb90aee0ede33d29cbf1", func := "escritoire/escritoirekeep.RegsNine", spec := "regsNine", unfollowed := true, recurses := true, apart := false, narrowed := true }
def RegsNineUptoSaid : Prop := regsNineUptoRow.holds Try.pinned (OpenSpec.upto regsNineSpec)

/-- 'escritoirekeep.RegsLast', WHERE WHAT IT READS IS OF BULK AT MOST 1048576: true; the input reads as it did. -/
def regsLastUptoRow : OpenClaim := { program := "ytmmkbjinkdgdbaa", sum := "77e7b342bf1f1cd2e2c92b4f23424ccc59c69dd295b5bb90aee0ede33d29cbf1", func := "escritoire/escritoirekeep.RegsLast", spec := "regsLast", unfollowed := true, recurses := true, apart := false, narrowed := true }
def RegsLastUptoSaid : Prop := regsLastUptoRow.holds Try.pinned (OpenSpec.upto regsLastSpec)

/-- 'escritoirekeep.KeysApart', WHERE WHAT IT READS IS OF BULK AT MOST 1048576: true; the input reads as it did. -/
def keysApartUptoRow : OpenClaim := { program := "ytmmkbjinkdgdbaa", sum := "77e7b342bf1f1cd2e2c92b4f23424ccc59c69dd295b5bb90aee0ede33d29cbf1", func := "escritoire/escritoirekeep.KeysApart", spec := "keysApart", inPlace := ["internal/bytealg.IndexByteString"], unfollowed := true, recurses := true, apart := false, narrowed := true }
def KeysApartUptoSaid : Prop := keysApartUptoRow.holds Try.pinned (OpenSpec.upto keysApartSpec)

/-- 'escritoirekeep.KeysTimes', WHERE WHAT IT READS IS OF BULK AT MOST 1048576: true; the input reads as it did. -/
def keysTimesUptoRow : OpenClaim := { program := "ytmmkbjinkdgdbaa", sum := "77e7b342bf1f1cd2e2c92b4f23424ccc59c69dd295b5bb90aee0ede33d29cbf1", func := "escritoire/escritoirekeep.KeysTimes", spec := "keysTimes", inPlace := ["internal/bytealg.IndexByteString"], unfollowed := true, recurses := true, apart := false, narrowed := true }
def KeysTimesUptoSaid : Prop := keysTimesUptoRow.holds Try.pinned (OpenSpec.upto keysTimesSpec)

/-- 'escritoirekeep.LzBack', WHERE WHAT IT READS IS OF BULK AT MOST 1048576: true; the input reads as it did. -/
def lzBackUptoRow : OpenClaim := { program := "ytmmkbjinkdgdbaa", sum := "77e7b342bf1f1cd2e2c92b4f23424ccc59c69dd295b5bb90aee0ede33d29cbf1", func := "escritoire/escritoirekeep.LzBack", spec := "lzBack", unfollowed := true, recurses := true, apart := false, narrowed := true }
def LzBackUptoSaid : Prop := lzBackUptoRow.holds Try.pinned (OpenSpec.upto lzBackSpec)

/-- 'escritoirekeep.RealTrue', WHERE WHAT IT READS IS OF BULK AT MOST 1048576: true; the input reads as it did. -/
def realTrueUptoRow : OpenClaim := { program := "ytmmkbjinkdgdbaa", sum := "77e7b342bf1f1cd2e2c92b4f23424ccc59c69dd295b5bb90aee0ede33d29cbf1", func := "escritoire/escritoirekeep.RealTrue", spec := "realTrue", inPlace := ["math.Float32frombits", "math.Float64frombits", "math.Float64bits"], apart := false, narrowed := true }
def RealTrueUptoSaid : Prop := realTrueUptoRow.holds Try.pinned (OpenSpec.upto realTrueSpec)

/-- 'escritoirekeep.PieceApart', WHERE WHAT IT READS IS OF BULK AT MOST 1048576: true; the input reads as it did. -/
def pieceApartUptoRow : OpenClaim := { program := "ytmmkbjinkdgdbaa", sum := "77e7b342bf1f1cd2e2c92b4f23424ccc59c69dd295b5bb90aee0ede33d29cbf1", func := "escritoire/escritoirekeep.PieceApart", spec := "pieceApart", unfollowed := true, recurses := true, apart := false, narrowed := true }
def PieceApartUptoSaid : Prop := pieceApartUptoRow.holds Try.pinned (OpenSpec.upto pieceApartSpec)

/-- 'escritoirekeep.PieceParts', WHERE WHAT IT READS IS OF BULK AT MOST 1048576: true; the input reads as it did. -/
def piecePartsUptoRow : OpenClaim := { program := "ytmmkbjinkdgdbaa", sum := "77e7b342bf1f1cd2e2c92b4f23424ccc59c69dd295b5bb90aee0ede33d29cbf1", func := "escritoire/escritoirekeep.PieceParts", spec := "pieceParts", unfollowed := true, recurses := true, apart := false, narrowed := true }
def PiecePartsUptoSaid : Prop := piecePartsUptoRow.holds Try.pinned (OpenSpec.upto piecePartsSpec)

/-- 'escritoirekeep.MotionStays', WHERE WHAT IT READS IS OF BULK AT MOST 1048576: true; the input reads as it did. -/
def motionStaysUptoRow : OpenClaim := { program := "ytmmkbjinkdgdbaa", sum := "77e7b342bf1f1cd2e2c92b4f23424ccc59c69dd295b5bb90aee0ede33d29cbf1", func := "escritoire/escritoirekeep.MotionStays", spec := "motionStays", inPlace := ["internal/abi.NoEscape", "internal/bytealg.MakeNoZero", "internal/bytealg.IndexByteString"], unfollowed := true, recurses := true, apart := false, narrowed := true }
def MotionStaysUptoSaid : Prop := motionStaysUptoRow.holds Try.pinned (OpenSpec.upto motionStaysSpec)

/-- 'escritoirekeep.DiffMetric', WHERE WHAT IT READS IS OF BULK AT MOST 1048576: true; the input reads as it did. -/
def diffMetricUptoRow : OpenClaim := { program := "ytmmkbjinkdgdbaa", sum := "77e7b342bf1f1cd2e2c92b4f23424ccc59c69dd295b5bb90aee0ede33d29cbf1", func := "escritoire/escritoirekeep.DiffMetric", spec := "diffMetric", inPlace := ["internal/abi.NoEscape"], apart := false, narrowed := true }
def DiffMetricUptoSaid : Prop := diffMetricUptoRow.holds Try.pinned (OpenSpec.upto diffMetricSpec)

/-- 'escritoirekeep.DiffAlone', WHERE WHAT IT READS IS OF BULK AT MOST 1048576: true; the input reads as it did. -/
def diffAloneUptoRow : OpenClaim := { program := "ytmmkbjinkdgdbaa", sum := "77e7b342bf1f1cd2e2c92b4f23424ccc59c69dd295b5bb90aee0ede33d29cbf1", func := "escritoire/escritoirekeep.DiffAlone", spec := "diffAlone", inPlace := ["internal/abi.NoEscape"], apart := false, narrowed := true }
def DiffAloneUptoSaid : Prop := diffAloneUptoRow.holds Try.pinned (OpenSpec.upto diffAloneSpec)

/-- 'escritoirekeep.DiffMakes', WHERE WHAT IT READS IS OF BULK AT MOST 1048576: true; the input reads as it did. -/
def diffMakesUptoRow : OpenClaim := { program := "ytmmkbjinkdgdbaa", sum := "77e7b342bf1f1cd2e2c92b4f23424ccc59c69dd295b5bb90aee0ede33d29cbf1", func := "escritoire/escritoirekeep.DiffMakes", spec := "diffMakes", inPlace := ["internal/abi.NoEscape"], apart := false, narrowed := true }
def DiffMakesUptoSaid : Prop := diffMakesUptoRow.holds Try.pinned (OpenSpec.upto diffMakesSpec)

end Rows
end Go.Proofs.Ytmmkbjinkdgdbaa
