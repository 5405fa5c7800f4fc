/-
  NARROWER THAN 'FOR EVERY INPUT', by the rows' own cells (each row's printed sentence says how): TmplAgain: laid · TmplPieces: laid · TypesNames: laid.
  DERIVED. THE GIVEN ROWS OF THIS SEAT. 3 by the template 'for every input the law returns true; each argument reads behind the call as it read before'; 0 by the template 'total and deterministic' (their statements: YtfdmgeloghpodaaDoorTotals.lean).
  GIVEN WITH THE SEED: the statements are not yours to turn. If you find one false, say at which input.
  Laid BY PROGRAM, IN A SANDBOX (cutbox-rows.mjs): the forced cells as the released guide's own fill.sh prints them over the translation 6e7abbfe0baadcb0… (all of the seat's roots in one cut). By AI agents, Wed Nov 11 2026. No macro, syntax, notation, axiom, sorry.
-/
import Derived.Test.YtfdmgeloghpodaaDoorChecked
import GoSem.Claim
import GoSem.ClaimJoined
import GoSem.ClaimMapViews
import Derived.JoinedTies
import Derived.KernelRfl
namespace Go.Proofs.YtfdmgeloghpodaaDoor
/- THE CELL 'sum', in the pinned program and in every row, IS THE sha256 OF THE DUMP (.gsa) THAT YtfdmgeloghpodaaDoorProg.lean LOADS. Nothing in Lean hashes anything: it is a label: what it is worth is what the hold of that sum in a sandbox is worth. -/
noncomputable def Tryd.pinned : Pinned := { name := "ytfdmgeloghpodaadoor", sum := "6e7abbfe0baadcb095714d2ab90d82e66398b63c45b281d334a5166b9acb18dc", checked := Tryd.checked }
namespace Rows
def none {H : Type} : Left H := { results := [], args := [] }

/- WHAT THE LISTED PACKAGE-LEVEL VARIABLES READ AS WHEN THE CALL BEGINS. Each datum BY PROGRAM (the guide's laid-datum.mjs) off the statement by which the dump's own 'gosem.cut.vars' lays the variable. In a bare row this is a premise. The card (YtfdmgeloghpodaaDoorCards.lean) ties it to the program's text. -/
def laid_errors_errorType {H : Type} : DataW H := .iface "internal/reflectlite.rtype" (.agg [.ptr (.lit (.string [101, 114, 114, 111, 114]))])
def laid_escritoire_lex_marks {H : Type} : DataW H := .agg [.lit (.string [61, 61]), .lit (.string [33, 61]), .lit (.string [123]), .lit (.string [125]), .lit (.string [91]), .lit (.string [93]), .lit (.string [40]), .lit (.string [41]), .lit (.string [59]), .lit (.string [44]), .lit (.string [61]), .lit (.string [43]), .lit (.string [45]), .lit (.string [42]), .lit (.string [38]), .lit (.string [124]), .lit (.string [60]), .lit (.string [62])]
def laid_escritoire_expr_levels {H : Type} : DataW H := .agg [.slice [.lit (.string [61, 61]), .lit (.string [33, 61]), .lit (.string [60]), .lit (.string [62])] [], .slice [.lit (.string [43]), .lit (.string [45]), .lit (.string [124])] [], .slice [.lit (.string [42]), .lit (.string [38])] []]

/-- 'escritoirekeep.TmplAgain': WHATEVER THE INPUT: true; the input reads as it did. -/
def tmplAgainSpec : ChangeSpec := { name := "tmplAgain", fn := fun _ => fun
  | [d] => { results := [.lit (.bool true)], args := [d] }
  | _ => none }
def tmplAgainRow : OpenClaim := { program := "ytfdmgeloghpodaadoor", sum := "6e7abbfe0baadcb095714d2ab90d82e66398b63c45b281d334a5166b9acb18dc", func := "escritoire/escritoirekeep.TmplAgain", spec := "tmplAgain", inPlace := ["internal/reflectlite.ValueOf", "(internal/reflectlite.Value).Type", "(internal/reflectlite.Value).IsNil", "internal/reflectlite.TypeOf", "(internal/reflectlite.Value).Elem", "(internal/reflectlite.Value).Set", "internal/abi.NoEscape", "internal/bytealg.MakeNoZero"], unfollowed := true, recurses := true, named := ["escritoire/lex.marks", "escritoire/expr.levels", "errors.errorType"], apart := false, laid := [("errors.errorType", laid_errors_errorType), ("escritoire/lex.marks", laid_escritoire_lex_marks), ("escritoire/expr.levels", laid_escritoire_expr_levels)] }
def TmplAgainSaid : Prop := tmplAgainRow.holds Tryd.pinned (OpenSpec.ofChange tmplAgainSpec)

/-- ITS FALSE NEIGHBOUR: 'it returns false'. Refute it at one input. -/
def tmplAgainWrong : ChangeSpec := { name := "tmplAgain", fn := fun _ => fun
  | [d] => { results := [.lit (.bool false)], args := [d] }
  | _ => none }
def TmplAgainWrongFalsely : Prop := tmplAgainRow.holds Tryd.pinned (OpenSpec.ofChange tmplAgainWrong)

/-- 'escritoirekeep.TmplPieces': WHATEVER THE INPUT: true; the input reads as it did. -/
def tmplPiecesSpec : ChangeSpec := { name := "tmplPieces", fn := fun _ => fun
  | [d1, d2] => { results := [.lit (.bool true)], args := [d1, d2] }
  | _ => none }
def tmplPiecesRow : OpenClaim := { program := "ytfdmgeloghpodaadoor", sum := "6e7abbfe0baadcb095714d2ab90d82e66398b63c45b281d334a5166b9acb18dc", func := "escritoire/escritoirekeep.TmplPieces", spec := "tmplPieces", inPlace := ["internal/reflectlite.ValueOf", "(internal/reflectlite.Value).Type", "(internal/reflectlite.Value).IsNil", "internal/reflectlite.TypeOf", "(internal/reflectlite.Value).Elem", "(internal/reflectlite.Value).Set", "internal/abi.NoEscape", "internal/bytealg.MakeNoZero"], unfollowed := true, recurses := true, named := ["escritoire/lex.marks", "escritoire/expr.levels", "errors.errorType"], apart := false, laid := [("errors.errorType", laid_errors_errorType), ("escritoire/lex.marks", laid_escritoire_lex_marks), ("escritoire/expr.levels", laid_escritoire_expr_levels)] }
def TmplPiecesSaid : Prop := tmplPiecesRow.holds Tryd.pinned (OpenSpec.ofChange tmplPiecesSpec)

/-- ITS FALSE NEIGHBOUR: 'it returns false'. Refute it at one input. -/
def tmplPiecesWrong : ChangeSpec := { name := "tmplPieces", fn := fun _ => fun
  | [d1, d2] => { results := [.lit (.bool false)], args := [d1, d2] }
  | _ => none }
def TmplPiecesWrongFalsely : Prop := tmplPiecesRow.holds Tryd.pinned (OpenSpec.ofChange tmplPiecesWrong)

/-- 'escritoirekeep.TypesNames': WHATEVER THE INPUT: true; the input reads as it did. -/
def typesNamesSpec : ChangeSpec := { name := "typesNames", fn := fun _ => fun
  | [d] => { results := [.lit (.bool true)], args := [d] }
  | _ => none }
def typesNamesRow : OpenClaim := { program := "ytfdmgeloghpodaadoor", sum := "6e7abbfe0baadcb095714d2ab90d82e66398b63c45b281d334a5166b9acb18dc", func := "escritoire/escritoirekeep.TypesNames", spec := "typesNames", inPlace := ["internal/reflectlite.ValueOf", "(internal/reflectlite.Value).Type", "(internal/reflectlite.Value).IsNil", "internal/reflectlite.TypeOf", "(internal/reflectlite.Value).Elem", "(internal/reflectlite.Value).Set", "internal/abi.NoEscape", "internal/bytealg.MakeNoZero"], unfollowed := true, recurses := true, named := ["escritoire/lex.marks", "escritoire/expr.levels", "errors.errorType"], apart := false, laid := [("errors.errorType", laid_errors_errorType), ("escritoire/lex.marks", laid_escritoire_lex_marks), ("escritoire/expr.levels", laid_escritoire_expr_levels)] }
def TypesNamesSaid : Prop := typesNamesRow.holds Tryd.pinned (OpenSpec.ofChange typesNamesSpec)

/-- ITS FALSE NEIGHBOUR: 'it returns false'. Refute it at one input. -/
def typesNamesWrong : ChangeSpec := { name := "typesNames", fn := fun _ => fun
  | [d] => { results := [.lit (.bool false)], args := [d] }
  | _ => none }
def TypesNamesWrongFalsely : Prop := typesNamesRow.holds Tryd.pinned (OpenSpec.ofChange typesNamesWrong)

/- THE SECOND FORM. 'bulk': how many values and letters a reading holds, each counted each time it is reached (what is shared counts as often as it is met; a slice's spare places count too). A statement '..UptoSaid' is the law's where the arguments, and the package variables that the reading takes, are together of bulk at most 1048576: NARROWER than '..Said'. Prove '..Said' where nothing that the law and all that it calls make is longer than what came in: it says more and counts as full. Else prove '..UptoSaid'. A law counts once. -/
mutual
def uptoBulk {H : Type} : DataW H → Nat
  | .lit (.string bytes) => bytes.length + 1
  | .lit _ => 1
  | .nil => 1
  | .ptr d => uptoBulk d + 1
  | .slice elems spare => uptoBulkAll elems + uptoBulkAll spare + 1
  | .agg parts => uptoBulkAll parts + 1
  | .iface _ d => uptoBulk d + 1
  | .map entries => uptoBulkEntries entries + 1
  | .held _ => 1
def uptoBulkAll {H : Type} : List (DataW H) → Nat
  | [] => 0
  | d :: r => uptoBulk d + uptoBulkAll r
def uptoBulkEntries {H : Type} : List (Lit × DataW H) → Nat
  | [] => 0
  | x :: r => uptoBulkEntry x + uptoBulkEntries r
def uptoBulkEntry {H : Type} : Lit × DataW H → Nat
  | (.string bytes, d) => bytes.length + uptoBulk d + 1
  | (_, d) => uptoBulk d + 1
 end
def uptoSmall : (H : Type) → List (DataW H) → Bool := fun _ ds => decide (uptoBulkAll ds ≤ 1048576)
def OpenSpec.upto (s : _root_.Go.ChangeSpec) : _root_.Go.OpenSpec := { _root_.Go.OpenSpec.ofChange s with cond := some uptoSmall }

/-- 'escritoirekeep.TmplAgain', WHERE WHAT IT READS IS OF BULK AT MOST 1048576: true; the input reads as it did. -/
def tmplAgainUptoRow : OpenClaim := { program := "ytfdmgeloghpodaadoor", sum := "6e7abbfe0baadcb095714d2ab90d82e66398b63c45b281d334a5166b9acb18dc", func := "escritoire/escritoirekeep.TmplAgain", spec := "tmplAgain", inPlace := ["internal/reflectlite.ValueOf", "(internal/reflectlite.Value).Type", "(internal/reflectlite.Value).IsNil", "internal/reflectlite.TypeOf", "(internal/reflectlite.Value).Elem", "(internal/reflectlite.Value).Set", "internal/abi.NoEscape", "internal/bytealg.MakeNoZero"], unfollowed := true, recurses := true, named := ["escritoire/lex.marks", "escritoire/expr.levels", "errors.errorType"], apart := false, laid := [("errors.errorType", laid_errors_errorType), ("escritoire/lex.marks", laid_escritoire_lex_marks), ("escritoire/expr.levels", laid_escritoire_expr_levels)], narrowed := true }
def TmplAgainUptoSaid : Prop := tmplAgainUptoRow.holds Tryd.pinned (OpenSpec.upto tmplAgainSpec)

/-- 'escritoirekeep.TmplPieces', WHERE WHAT IT READS IS OF BULK AT MOST 1048576: true; the input reads as it did. -/
def tmplPiecesUptoRow : OpenClaim := { program := "ytfdmgeloghpodaadoor", sum := "6e7abbfe0baadcb095714d2ab90d82e66398b63c45b281d334a5166b9acb18dc", func := "escritoire/escritoirekeep.TmplPieces", spec := "tmplPieces", inPlace := ["internal/reflectlite.ValueOf", "(internal/reflectlite.Value).Type", "(internal/reflectlite.Value).IsNil", "internal/reflectlite.TypeOf", "(internal/reflectlite.Value).Elem", "(internal/reflectlite.Value).Set", "internal/abi.NoEscape", "internal/bytealg.MakeNoZero"], unfollowed := true, recurses := true, named := ["escritoire/lex.marks", "escritoire/expr.levels", "errors.errorType"], apart := false, laid := [("errors.errorType", laid_errors_errorType), ("escritoire/lex.marks", laid_escritoire_lex_marks), ("escritoire/expr.levels", laid_escritoire_expr_levels)], narrowed := true }
def TmplPiecesUptoSaid : Prop := tmplPiecesUptoRow.holds Tryd.pinned (OpenSpec.upto tmplPiecesSpec)

/-- 'escritoirekeep.TypesNames', WHERE WHAT IT READS IS OF BULK AT MOST 1048576: true; the input reads as it did. -/
def typesNamesUptoRow : OpenClaim := { program := "ytfdmgeloghpodaadoor", sum := "6e7abbfe0baadcb095714d2ab90d82e66398b63c45b281d334a5166b9acb18dc", func := "escritoire/escritoirekeep.TypesNames", spec := "typesNames", inPlace := ["internal/reflectlite.ValueOf", "(internal/reflectlite.Value).Type", "(internal/reflectlite.Value).IsNil", "internal/reflectlite.TypeOf", "(internal/reflectlite.Value).Elem", "(internal/reflectlite.Value).Set", "internal/abi.NoEscape", "internal/bytealg.MakeNoZero"], unfollowed := true, recurses := true, named := ["escritoire/lex.marks", "escritoire/expr.levels", "errors.errorType"], apart := false, laid := [("errors.errorType", laid_errors_errorType), ("escritoire/lex.marks", laid_escritoire_lex_marks), ("escritoire/expr.levels", laid_escritoire_expr_levels)], narrowed := true }
def TypesNamesUptoSaid : Prop := typesNamesUptoRow.holds Tryd.pinned (OpenSpec.upto typesNamesSpec)

end Rows
end Go.Proofs.YtfdmgeloghpodaaDoor
