/-
  NARROWER THAN 'FOR EVERY INPUT', by the rows' own cells (each row's printed sentence says how): ExprAgain: maps, laid · ExprNames: maps, laid · TmplAgain: laid · TmplPieces: laid · TypesNames: laid · ExBlanks: laid · ShowSees: laid.
  DERIVED. THE GIVEN ROWS OF THIS SEAT. 7 by the template 'for every input the law returns true; each argument reads behind the call as it read before'; 0 by the template 'total and deterministic' (their statements: YtnmbakibiaedhaaDoorTotals.lean).
  GIVEN WITH THE SEED: the statements are not yours to turn. If you find one false, say at which input.
  Laid BY PROGRAM, IN A SANDBOX (cutbox-rows.mjs): the forced cells as the released guide's own fill.sh prints them over the translation 190603906bf544e3… (all of the seat's roots in one cut). By AI agents, Wed Nov 11 2026. No macro, syntax, notation, axiom, sorry.
-/
import Derived.Test.YtnmbakibiaedhaaDoorChecked
import GoSem.PinnedTables
import GoSem.Claim
import GoSem.ClaimJoined
import GoSem.ClaimMapViews
import Derived.JoinedTies
import Derived.KernelRfl
namespace Go.Proofs.YtnmbakibiaedhaaDoor
/- THE CELL 'sum', in the pinned program and in every row, IS THE sha256 OF THE DUMP (.gsa) THAT YtnmbakibiaedhaaDoorProg.lean LOADS. Nothing in Lean hashes anything: it is a label: what it is worth is what the hold of that sum in a sandbox is worth. -/
noncomputable def Tryd.pinned : Pinned := { name := "ytnmbakibiaedhaadoor", sum := "190603906bf544e38f4bf4f0c226edd642efddcfdc109756404b86fcefda4f22", checked := Tryd.checked }
namespace Rows
def none {H : Type} : Left H := { results := [], args := [] }

/- WHAT THE LISTED PACKAGE-LEVEL VARIABLES READ AS WHEN THE CALL BEGINS. Each datum BY PROGRAM (the guide's laid-datum.mjs) off the statement by which the dump's own 'gosem.cut.vars' lays the variable. In a bare row this is a premise. The card (YtnmbakibiaedhaaDoorCards.lean) ties it to the program's text. -/
def laid_errors_errorType {H : Type} : DataW H := .iface "internal/reflectlite.rtype" (.agg [.ptr (.lit (.string [101, 114, 114, 111, 114]))])
def laid_escritoire_lex_marks {H : Type} : DataW H := .agg [.lit (.string [61, 61]), .lit (.string [33, 61]), .lit (.string [123]), .lit (.string [125]), .lit (.string [91]), .lit (.string [93]), .lit (.string [40]), .lit (.string [41]), .lit (.string [59]), .lit (.string [44]), .lit (.string [61]), .lit (.string [43]), .lit (.string [45]), .lit (.string [42]), .lit (.string [38]), .lit (.string [124]), .lit (.string [60]), .lit (.string [62])]
def laid_escritoire_expr_levels {H : Type} : DataW H := .agg [.slice [.lit (.string [61, 61]), .lit (.string [33, 61]), .lit (.string [60]), .lit (.string [62])] [], .slice [.lit (.string [43]), .lit (.string [45]), .lit (.string [124])] [], .slice [.lit (.string [42]), .lit (.string [38])] []]
def laid_unicode_utf8_acceptRanges {H : Type} : DataW H := .agg [.agg [.lit (.int .u8 128), .lit (.int .u8 191)], .agg [.lit (.int .u8 160), .lit (.int .u8 191)], .agg [.lit (.int .u8 128), .lit (.int .u8 159)], .agg [.lit (.int .u8 144), .lit (.int .u8 191)], .agg [.lit (.int .u8 128), .lit (.int .u8 143)], .agg [.lit (.int .u8 0), .lit (.int .u8 0)], .agg [.lit (.int .u8 0), .lit (.int .u8 0)], .agg [.lit (.int .u8 0), .lit (.int .u8 0)], .agg [.lit (.int .u8 0), .lit (.int .u8 0)], .agg [.lit (.int .u8 0), .lit (.int .u8 0)], .agg [.lit (.int .u8 0), .lit (.int .u8 0)], .agg [.lit (.int .u8 0), .lit (.int .u8 0)], .agg [.lit (.int .u8 0), .lit (.int .u8 0)], .agg [.lit (.int .u8 0), .lit (.int .u8 0)], .agg [.lit (.int .u8 0), .lit (.int .u8 0)], .agg [.lit (.int .u8 0), .lit (.int .u8 0)]]
/-- One of Go's own tables, pinned by name: the form's constant. -/
def laid_unicode_utf8_first : DataW Unit := Go.Pinned.utf8First
def laid_math_bits_deBruijn32tab {H : Type} : DataW H := .agg [.lit (.int .u8 0), .lit (.int .u8 1), .lit (.int .u8 28), .lit (.int .u8 2), .lit (.int .u8 29), .lit (.int .u8 14), .lit (.int .u8 24), .lit (.int .u8 3), .lit (.int .u8 30), .lit (.int .u8 22), .lit (.int .u8 20), .lit (.int .u8 15), .lit (.int .u8 25), .lit (.int .u8 17), .lit (.int .u8 4), .lit (.int .u8 8), .lit (.int .u8 31), .lit (.int .u8 27), .lit (.int .u8 13), .lit (.int .u8 23), .lit (.int .u8 21), .lit (.int .u8 19), .lit (.int .u8 16), .lit (.int .u8 7), .lit (.int .u8 26), .lit (.int .u8 12), .lit (.int .u8 18), .lit (.int .u8 6), .lit (.int .u8 11), .lit (.int .u8 5), .lit (.int .u8 10), .lit (.int .u8 9)]
def laid_math_bits_deBruijn64tab {H : Type} : DataW H := .agg [.lit (.int .u8 0), .lit (.int .u8 1), .lit (.int .u8 56), .lit (.int .u8 2), .lit (.int .u8 57), .lit (.int .u8 49), .lit (.int .u8 28), .lit (.int .u8 3), .lit (.int .u8 61), .lit (.int .u8 58), .lit (.int .u8 42), .lit (.int .u8 50), .lit (.int .u8 38), .lit (.int .u8 29), .lit (.int .u8 17), .lit (.int .u8 4), .lit (.int .u8 62), .lit (.int .u8 47), .lit (.int .u8 59), .lit (.int .u8 36), .lit (.int .u8 45), .lit (.int .u8 43), .lit (.int .u8 51), .lit (.int .u8 22), .lit (.int .u8 53), .lit (.int .u8 39), .lit (.int .u8 33), .lit (.int .u8 30), .lit (.int .u8 24), .lit (.int .u8 18), .lit (.int .u8 12), .lit (.int .u8 5), .lit (.int .u8 63), .lit (.int .u8 55), .lit (.int .u8 48), .lit (.int .u8 27), .lit (.int .u8 60), .lit (.int .u8 41), .lit (.int .u8 37), .lit (.int .u8 16), .lit (.int .u8 46), .lit (.int .u8 35), .lit (.int .u8 44), .lit (.int .u8 21), .lit (.int .u8 52), .lit (.int .u8 32), .lit (.int .u8 23), .lit (.int .u8 11), .lit (.int .u8 54), .lit (.int .u8 26), .lit (.int .u8 40), .lit (.int .u8 15), .lit (.int .u8 34), .lit (.int .u8 20), .lit (.int .u8 31), .lit (.int .u8 10), .lit (.int .u8 25), .lit (.int .u8 14), .lit (.int .u8 19), .lit (.int .u8 9), .lit (.int .u8 13), .lit (.int .u8 8), .lit (.int .u8 7), .lit (.int .u8 6)]
def laid_internal_strconv_uint64pow10 {H : Type} : DataW H := .agg [.lit (.int .u64 1), .lit (.int .u64 10), .lit (.int .u64 100), .lit (.int .u64 1000), .lit (.int .u64 10000), .lit (.int .u64 100000), .lit (.int .u64 1000000), .lit (.int .u64 10000000), .lit (.int .u64 100000000), .lit (.int .u64 1000000000), .lit (.int .u64 10000000000), .lit (.int .u64 100000000000), .lit (.int .u64 1000000000000), .lit (.int .u64 10000000000000), .lit (.int .u64 100000000000000), .lit (.int .u64 1000000000000000), .lit (.int .u64 10000000000000000), .lit (.int .u64 100000000000000000), .lit (.int .u64 1000000000000000000), .lit (.int .u64 10000000000000000000)]
/-- One of Go's own tables, pinned by name: the form's constant. -/
def laid_strconv_isGraphic : DataW Unit := Go.Pinned.isGraphic
/-- One of Go's own tables, pinned by name: the form's constant. -/
def laid_strconv_isNotPrint16 : DataW Unit := Go.Pinned.isNotPrint16
/-- One of Go's own tables, pinned by name: the form's constant. -/
def laid_strconv_isNotPrint32 : DataW Unit := Go.Pinned.isNotPrint32
/-- One of Go's own tables, pinned by name: the form's constant. -/
def laid_strconv_isPrint16 : DataW Unit := Go.Pinned.isPrint16
/-- One of Go's own tables, pinned by name: the form's constant. -/
def laid_strconv_isPrint32 : DataW Unit := Go.Pinned.isPrint32

/-- 'escritoirekeep.ExprAgain': WHATEVER THE INPUT: true; the input reads as it did. -/
def exprAgainSpec : ChangeSpec := { name := "exprAgain", fn := fun _ => fun
  | [d1, d2] => { results := [.lit (.bool true)], args := [d1, d2] }
  | _ => none }
def exprAgainRow : OpenClaim := { program := "ytnmbakibiaedhaadoor", sum := "190603906bf544e38f4bf4f0c226edd642efddcfdc109756404b86fcefda4f22", func := "escritoire/escritoirekeep.ExprAgain", spec := "exprAgain", inPlace := ["internal/reflectlite.ValueOf", "(internal/reflectlite.Value).Type", "(internal/reflectlite.Value).IsNil", "internal/reflectlite.TypeOf", "(internal/reflectlite.Value).Elem", "(internal/reflectlite.Value).Set"], unfollowed := true, recurses := true, named := ["escritoire/lex.marks", "escritoire/expr.levels", "errors.errorType"], maps := true, apart := false, laid := [("errors.errorType", laid_errors_errorType), ("escritoire/lex.marks", laid_escritoire_lex_marks), ("escritoire/expr.levels", laid_escritoire_expr_levels)] }
def ExprAgainSaid : Prop := exprAgainRow.holds Tryd.pinned (OpenSpec.ofChange exprAgainSpec)

/-- ITS FALSE NEIGHBOUR: 'it returns false'. Refute it at one input. -/
def exprAgainWrong : ChangeSpec := { name := "exprAgain", fn := fun _ => fun
  | [d1, d2] => { results := [.lit (.bool false)], args := [d1, d2] }
  | _ => none }
def ExprAgainWrongFalsely : Prop := exprAgainRow.holds Tryd.pinned (OpenSpec.ofChange exprAgainWrong)

/-- 'escritoirekeep.ExprNames': WHATEVER THE INPUT: true; the input reads as it did. -/
def exprNamesSpec : ChangeSpec := { name := "exprNames", fn := fun _ => fun
  | [d1, d2, d3] => { results := [.lit (.bool true)], args := [d1, d2, d3] }
  | _ => none }
def exprNamesRow : OpenClaim := { program := "ytnmbakibiaedhaadoor", sum := "190603906bf544e38f4bf4f0c226edd642efddcfdc109756404b86fcefda4f22", func := "escritoire/escritoirekeep.ExprNames", spec := "exprNames", inPlace := ["internal/reflectlite.ValueOf", "(internal/reflectlite.Value).Type", "(internal/reflectlite.Value).IsNil", "internal/reflectlite.TypeOf", "(internal/reflectlite.Value).Elem", "(internal/reflectlite.Value).Set", "maps.clone"], unfollowed := true, recurses := true, named := ["escritoire/lex.marks", "escritoire/expr.levels", "errors.errorType"], maps := true, apart := false, laid := [("errors.errorType", laid_errors_errorType), ("escritoire/lex.marks", laid_escritoire_lex_marks), ("escritoire/expr.levels", laid_escritoire_expr_levels)] }
def ExprNamesSaid : Prop := exprNamesRow.holds Tryd.pinned (OpenSpec.ofChange exprNamesSpec)

/-- ITS FALSE NEIGHBOUR: 'it returns false'. Refute it at one input. -/
def exprNamesWrong : ChangeSpec := { name := "exprNames", fn := fun _ => fun
  | [d1, d2, d3] => { results := [.lit (.bool false)], args := [d1, d2, d3] }
  | _ => none }
def ExprNamesWrongFalsely : Prop := exprNamesRow.holds Tryd.pinned (OpenSpec.ofChange exprNamesWrong)

/-- 'escritoirekeep.TmplAgain': WHATEVER THE INPUT: true; the input reads as it did. -/
def tmplAgainSpec : ChangeSpec := { name := "tmplAgain", fn := fun _ => fun
  | [d] => { results := [.lit (.bool true)], args := [d] }
  | _ => none }
def tmplAgainRow : OpenClaim := { program := "ytnmbakibiaedhaadoor", sum := "190603906bf544e38f4bf4f0c226edd642efddcfdc109756404b86fcefda4f22", func := "escritoire/escritoirekeep.TmplAgain", spec := "tmplAgain", inPlace := ["internal/reflectlite.ValueOf", "(internal/reflectlite.Value).Type", "(internal/reflectlite.Value).IsNil", "internal/reflectlite.TypeOf", "(internal/reflectlite.Value).Elem", "(internal/reflectlite.Value).Set", "internal/abi.NoEscape", "internal/bytealg.MakeNoZero"], unfollowed := true, recurses := true, named := ["escritoire/lex.marks", "escritoire/expr.levels", "errors.errorType"], apart := false, laid := [("errors.errorType", laid_errors_errorType), ("escritoire/lex.marks", laid_escritoire_lex_marks), ("escritoire/expr.levels", laid_escritoire_expr_levels)] }
def TmplAgainSaid : Prop := tmplAgainRow.holds Tryd.pinned (OpenSpec.ofChange tmplAgainSpec)

/-- ITS FALSE NEIGHBOUR: 'it returns false'. Refute it at one input. -/
def tmplAgainWrong : ChangeSpec := { name := "tmplAgain", fn := fun _ => fun
  | [d] => { results := [.lit (.bool false)], args := [d] }
  | _ => none }
def TmplAgainWrongFalsely : Prop := tmplAgainRow.holds Tryd.pinned (OpenSpec.ofChange tmplAgainWrong)

/-- 'escritoirekeep.TmplPieces': WHATEVER THE INPUT: true; the input reads as it did. -/
def tmplPiecesSpec : ChangeSpec := { name := "tmplPieces", fn := fun _ => fun
  | [d1, d2] => { results := [.lit (.bool true)], args := [d1, d2] }
  | _ => none }
def tmplPiecesRow : OpenClaim := { program := "ytnmbakibiaedhaadoor", sum := "190603906bf544e38f4bf4f0c226edd642efddcfdc109756404b86fcefda4f22", func := "escritoire/escritoirekeep.TmplPieces", spec := "tmplPieces", inPlace := ["internal/reflectlite.ValueOf", "(internal/reflectlite.Value).Type", "(internal/reflectlite.Value).IsNil", "internal/reflectlite.TypeOf", "(internal/reflectlite.Value).Elem", "(internal/reflectlite.Value).Set", "internal/abi.NoEscape", "internal/bytealg.MakeNoZero"], unfollowed := true, recurses := true, named := ["escritoire/lex.marks", "escritoire/expr.levels", "errors.errorType"], apart := false, laid := [("errors.errorType", laid_errors_errorType), ("escritoire/lex.marks", laid_escritoire_lex_marks), ("escritoire/expr.levels", laid_escritoire_expr_levels)] }
def TmplPiecesSaid : Prop := tmplPiecesRow.holds Tryd.pinned (OpenSpec.ofChange tmplPiecesSpec)

/-- ITS FALSE NEIGHBOUR: 'it returns false'. Refute it at one input. -/
def tmplPiecesWrong : ChangeSpec := { name := "tmplPieces", fn := fun _ => fun
  | [d1, d2] => { results := [.lit (.bool false)], args := [d1, d2] }
  | _ => none }
def TmplPiecesWrongFalsely : Prop := tmplPiecesRow.holds Tryd.pinned (OpenSpec.ofChange tmplPiecesWrong)

/-- 'escritoirekeep.TypesNames': WHATEVER THE INPUT: true; the input reads as it did. -/
def typesNamesSpec : ChangeSpec := { name := "typesNames", fn := fun _ => fun
  | [d] => { results := [.lit (.bool true)], args := [d] }
  | _ => none }
def typesNamesRow : OpenClaim := { program := "ytnmbakibiaedhaadoor", sum := "190603906bf544e38f4bf4f0c226edd642efddcfdc109756404b86fcefda4f22", func := "escritoire/escritoirekeep.TypesNames", spec := "typesNames", inPlace := ["internal/reflectlite.ValueOf", "(internal/reflectlite.Value).Type", "(internal/reflectlite.Value).IsNil", "internal/reflectlite.TypeOf", "(internal/reflectlite.Value).Elem", "(internal/reflectlite.Value).Set", "internal/abi.NoEscape", "internal/bytealg.MakeNoZero"], unfollowed := true, recurses := true, named := ["escritoire/lex.marks", "escritoire/expr.levels", "errors.errorType"], apart := false, laid := [("errors.errorType", laid_errors_errorType), ("escritoire/lex.marks", laid_escritoire_lex_marks), ("escritoire/expr.levels", laid_escritoire_expr_levels)] }
def TypesNamesSaid : Prop := typesNamesRow.holds Tryd.pinned (OpenSpec.ofChange typesNamesSpec)

/-- ITS FALSE NEIGHBOUR: 'it returns false'. Refute it at one input. -/
def typesNamesWrong : ChangeSpec := { name := "typesNames", fn := fun _ => fun
  | [d] => { results := [.lit (.bool false)], args := [d] }
  | _ => none }
def TypesNamesWrongFalsely : Prop := typesNamesRow.holds Tryd.pinned (OpenSpec.ofChange typesNamesWrong)

/-- 'escritoirekeep.ExBlanks': WHATEVER THE INPUT: true; the input reads as it did. -/
def exBlanksSpec : ChangeSpec := { name := "exBlanks", fn := fun _ => fun
  | [d1, d2] => { results := [.lit (.bool true)], args := [d1, d2] }
  | _ => none }
def exBlanksRow : OpenClaim := { program := "ytnmbakibiaedhaadoor", sum := "190603906bf544e38f4bf4f0c226edd642efddcfdc109756404b86fcefda4f22", func := "escritoire/escritoirekeep.ExBlanks", spec := "exBlanks", inPlace := ["internal/bytealg.IndexByteString", "internal/bytealg.IndexString", "internal/abi.NoEscape", "internal/bytealg.MakeNoZero", "internal/bytealg.CountString", "internal/reflectlite.ValueOf", "(internal/reflectlite.Value).Type", "(internal/reflectlite.Value).IsNil", "internal/reflectlite.TypeOf", "(internal/reflectlite.Value).Elem", "(internal/reflectlite.Value).Set"], unfollowed := true, recurses := true, named := ["unicode/utf8.first", "unicode/utf8.acceptRanges", "internal/bytealg.MaxLen", "errors.errorType"], apart := false, laid := [("unicode/utf8.acceptRanges", laid_unicode_utf8_acceptRanges), ("errors.errorType", laid_errors_errorType), ("unicode/utf8.first", laid_unicode_utf8_first)] }
def ExBlanksSaid : Prop := exBlanksRow.holds Tryd.pinned (OpenSpec.ofChange exBlanksSpec)

/-- ITS FALSE NEIGHBOUR: 'it returns false'. Refute it at one input. -/
def exBlanksWrong : ChangeSpec := { name := "exBlanks", fn := fun _ => fun
  | [d1, d2] => { results := [.lit (.bool false)], args := [d1, d2] }
  | _ => none }
def ExBlanksWrongFalsely : Prop := exBlanksRow.holds Tryd.pinned (OpenSpec.ofChange exBlanksWrong)

/-- 'escritoirekeep.ShowSees': WHATEVER THE INPUT: true; the input reads as it did. -/
def showSeesSpec : ChangeSpec := { name := "showSees", fn := fun _ => fun
  | [d1, d2, d3] => { results := [.lit (.bool true)], args := [d1, d2, d3] }
  | _ => none }
def showSeesRow : OpenClaim := { program := "ytnmbakibiaedhaadoor", sum := "190603906bf544e38f4bf4f0c226edd642efddcfdc109756404b86fcefda4f22", func := "escritoire/escritoirekeep.ShowSees", spec := "showSees", inPlace := ["internal/abi.NoEscape", "internal/bytealg.MakeNoZero", "internal/bytealg.IndexByteString", "internal/bytealg.IndexString"], named := ["internal/strconv.uint64pow10", "math/bits.deBruijn32tab", "math/bits.deBruijn64tab", "unicode/utf8.first", "unicode/utf8.acceptRanges", "strconv.isPrint16", "strconv.isNotPrint16", "strconv.isPrint32", "strconv.isNotPrint32", "strconv.isGraphic", "internal/bytealg.MaxLen"], apart := false, laid := [("math/bits.deBruijn32tab", laid_math_bits_deBruijn32tab), ("math/bits.deBruijn64tab", laid_math_bits_deBruijn64tab), ("internal/strconv.uint64pow10", laid_internal_strconv_uint64pow10), ("unicode/utf8.acceptRanges", laid_unicode_utf8_acceptRanges), ("strconv.isGraphic", laid_strconv_isGraphic), ("strconv.isNotPrint16", laid_strconv_isNotPrint16), ("strconv.isNotPrint32", laid_strconv_isNotPrint32), ("strconv.isPrint16", laid_strconv_isPrint16), ("strconv.isPrint32", laid_strconv_isPrint32), ("unicode/utf8.first", laid_unicode_utf8_first)] }
def ShowSeesSaid : Prop := showSeesRow.holds Tryd.pinned (OpenSpec.ofChange showSeesSpec)

/-- ITS FALSE NEIGHBOUR: 'it returns false'. Refute it at one input. -/
def showSeesWrong : ChangeSpec := { name := "showSees", fn := fun _ => fun
  | [d1, d2, d3] => { results := [.lit (.bool false)], args := [d1, d2, d3] }
  | _ => none }
def ShowSeesWrongFalsely : Prop := showSeesRow.holds Tryd.pinned (OpenSpec.ofChange showSeesWrong)

/- THE SECOND FORM. 'bulk': how many values and letters a reading holds, each counted each time it is reached (what is shared counts as often as it is met; a slice's spare places count too). A statement '..UptoSaid' is the law's where the arguments, and the package variables that the reading takes, are together of bulk at most 1048576: NARROWER than '..Said'. Prove '..Said' where nothing that the law and all that it calls make is longer than what came in: it says more and counts as full. Else prove '..UptoSaid'. A law counts once. -/
mutual
def uptoBulk {H : Type} : DataW H → Nat
  | .lit (.string bytes) => bytes.length + 1
  | .lit _ => 1
  | .nil => 1
  | .ptr d => uptoBulk d + 1
  | .slice elems spare => uptoBulkAll elems + uptoBulkAll spare + 1
  | .agg parts => uptoBulkAll parts + 1
  | .iface _ d => uptoBulk d + 1
  | .map entries => uptoBulkEntries entries + 1
  | .held _ => 1
def uptoBulkAll {H : Type} : List (DataW H) → Nat
  | [] => 0
  | d :: r => uptoBulk d + uptoBulkAll r
def uptoBulkEntries {H : Type} : List (Lit × DataW H) → Nat
  | [] => 0
  | x :: r => uptoBulkEntry x + uptoBulkEntries r
def uptoBulkEntry {H : Type} : Lit × DataW H → Nat
  | (.string bytes, d) => bytes.length + uptoBulk d + 1
  | (_, d) => uptoBulk d + 1
 end
def uptoSmall : (H : Type) → List (DataW H) → Bool := fun _ ds => decide (uptoBulkAll ds ≤ 1048576)
def OpenSpec.upto (s : _root_.Go.ChangeSpec) : _root_.Go.OpenSpec := { _root_.Go.OpenSpec.ofChange s with cond := some uptoSmall }

/-- 'escritoirekeep.ExprAgain', WHERE WHAT IT READS IS OF BULK AT MOST 1048576: true; the input reads as it did. -/
def exprAgainUptoRow : OpenClaim := { program := "ytnmbakibiaedhaadoor", sum := "190603906bf544e38f4bf4f0c226edd642efddcfdc109756404b86fcefda4f22", func := "escritoire/escritoirekeep.ExprAgain", spec := "exprAgain", inPlace := ["internal/reflectlite.ValueOf", "(internal/reflectlite.Value).Type", "(internal/reflectlite.Value).IsNil", "internal/reflectlite.TypeOf", "(internal/reflectlite.Value).Elem", "(internal/reflectlite.Value).Set"], unfollowed := true, recurses := true, named := ["escritoire/lex.marks", "escritoire/expr.levels", "errors.errorType"], maps := true, apart := false, laid := [("errors.errorType", laid_errors_errorType), ("escritoire/lex.marks", laid_escritoire_lex_marks), ("escritoire/expr.levels", laid_escritoire_expr_levels)], narrowed := true }
def ExprAgainUptoSaid : Prop := exprAgainUptoRow.holds Tryd.pinned (OpenSpec.upto exprAgainSpec)

/-- 'escritoirekeep.ExprNames', WHERE WHAT IT READS IS OF BULK AT MOST 1048576: true; the input reads as it did. -/
def exprNamesUptoRow : OpenClaim := { program := "ytnmbakibiaedhaadoor", sum := "190603906bf544e38f4bf4f0c226edd642efddcfdc109756404b86fcefda4f22", func := "escritoire/escritoirekeep.ExprNames", spec := "exprNames", inPlace := ["internal/reflectlite.ValueOf", "(internal/reflectlite.Value).Type", "(internal/reflectlite.Value).IsNil", "internal/reflectlite.TypeOf", "(internal/reflectlite.Value).Elem", "(internal/reflectlite.Value).Set", "maps.clone"], unfollowed := true, recurses := true, named := ["escritoire/lex.marks", "escritoire/expr.levels", "errors.errorType"], maps := true, apart := false, laid := [("errors.errorType", laid_errors_errorType), ("escritoire/lex.marks", laid_escritoire_lex_marks), ("escritoire/expr.levels", laid_escritoire_expr_levels)], narrowed := true }
def ExprNamesUptoSaid : Prop := exprNamesUptoRow.holds Tryd.pinned (OpenSpec.upto exprNamesSpec)

/-- 'escritoirekeep.TmplAgain', WHERE WHAT IT READS IS OF BULK AT MOST 1048576: true; the input reads as it did. -/
def tmplAgainUptoRow : OpenClaim := { program := "ytnmbakibiaedhaadoor", sum := "190603906bf544e38f4bf4f0c226edd642efddcfdc109756404b86fcefda4f22", func := "escritoire/escritoirekeep.TmplAgain", spec := "tmplAgain", inPlace := ["internal/reflectlite.ValueOf", "(internal/reflectlite.Value).Type", "(internal/reflectlite.Value).IsNil", "internal/reflectlite.TypeOf", "(internal/reflectlite.Value).Elem", "(internal/reflectlite.Value).Set", "internal/abi.NoEscape", "internal/bytealg.MakeNoZero"], unfollowed := true, recurses := true, named := ["escritoire/lex.marks", "escritoire/expr.levels", "errors.errorType"], apart := false, laid := [("errors.errorType", laid_errors_errorType), ("escritoire/lex.marks", laid_escritoire_lex_marks), ("escritoire/expr.levels", laid_escritoire_expr_levels)], narrowed := true }
def TmplAgainUptoSaid : Prop := tmplAgainUptoRow.holds Tryd.pinned (OpenSpec.upto tmplAgainSpec)

/-- 'escritoirekeep.TmplPieces', WHERE WHAT IT READS IS OF BULK AT MOST 1048576: true; the input reads as it did. -/
def tmplPiecesUptoRow : OpenClaim := { program := "ytnmbakibiaedhaadoor", sum := "190603906bf544e38f4bf4f0c226edd642efddcfdc109756404b86fcefda4f22", func := "escritoire/escritoirekeep.TmplPieces", spec := "tmplPieces", inPlace := ["internal/reflectlite.ValueOf", "(internal/reflectlite.Value).Type", "(internal/reflectlite.Value).IsNil", "internal/reflectlite.TypeOf", "(internal/reflectlite.Value).Elem", "(internal/reflectlite.Value).Set", "internal/abi.NoEscape", "internal/bytealg.MakeNoZero"], unfollowed := true, recurses := true, named := ["escritoire/lex.marks", "escritoire/expr.levels", "errors.errorType"], apart := false, laid := [("errors.errorType", laid_errors_errorType), ("escritoire/lex.marks", laid_escritoire_lex_marks), ("escritoire/expr.levels", laid_escritoire_expr_levels)], narrowed := true }
def TmplPiecesUptoSaid : Prop := tmplPiecesUptoRow.holds Tryd.pinned (OpenSpec.upto tmplPiecesSpec)

/-- 'escritoirekeep.TypesNames', WHERE WHAT IT READS IS OF BULK AT MOST 1048576: true; the input reads as it did. -/
def typesNamesUptoRow : OpenClaim := { program := "ytnmbakibiaedhaadoor", sum := "190603906bf544e38f4bf4f0c226edd642efddcfdc109756404b86fcefda4f22", func := "escritoire/escritoirekeep.TypesNames", spec := "typesNames", inPlace := ["internal/reflectlite.ValueOf", "(internal/reflectlite.Value).Type", "(internal/reflectlite.Value).IsNil", "internal/reflectlite.TypeOf", "(internal/reflectlite.Value).Elem", "(internal/reflectlite.Value).Set", "internal/abi.NoEscape", "internal/bytealg.MakeNoZero"], unfollowed := true, recurses := true, named := ["escritoire/lex.marks", "escritoire/expr.levels", "errors.errorType"], apart := false, laid := [("errors.errorType", laid_errors_errorType), ("escritoire/lex.marks", laid_escritoire_lex_marks), ("escritoire/expr.levels", laid_escritoire_expr_levels)], narrowed := true }
def TypesNamesUptoSaid : Prop := typesNamesUptoRow.holds Tryd.pinned (OpenSpec.upto typesNamesSpec)

/-- 'escritoirekeep.ExBlanks', WHERE WHAT IT READS IS OF BULK AT MOST 1048576: true; the input reads as it did. -/
def exBlanksUptoRow : OpenClaim := { program := "ytnmbakibiaedhaadoor", sum := "190603906bf544e38f4bf4f0c226edd642efddcfdc109756404b86fcefda4f22", func := "escritoire/escritoirekeep.ExBlanks", spec := "exBlanks", inPlace := ["internal/bytealg.IndexByteString", "internal/bytealg.IndexString", "internal/abi.NoEscape", "internal/bytealg.MakeNoZero", "internal/bytealg.CountString", "internal/reflectlite.ValueOf", "(internal/reflectlite.Value).Type", "(internal/reflectlite.Value).IsNil", "internal/reflectlite.TypeOf", "(internal/reflectlite.Value).Elem", "(internal/reflectlite.Value).Set"], unfollowed := true, recurses := true, named := ["unicode/utf8.first", "unicode/utf8.acceptRanges", "internal/bytealg.MaxLen", "errors.errorType"], apart := false, laid := [("unicode/utf8.acceptRanges", laid_unicode_utf8_acceptRanges), ("errors.errorType", laid_errors_errorType), ("unicode/utf8.first", laid_unicode_utf8_first)], narrowed := true }
def ExBlanksUptoSaid : Prop := exBlanksUptoRow.holds Tryd.pinned (OpenSpec.upto exBlanksSpec)

/-- 'escritoirekeep.ShowSees', WHERE WHAT IT READS IS OF BULK AT MOST 1048576: true; the input reads as it did. -/
def showSeesUptoRow : OpenClaim := { program := "ytnmbakibiaedhaadoor", sum := "190603906bf544e38f4bf4f0c226edd642efddcfdc109756404b86fcefda4f22", func := "escritoire/escritoirekeep.ShowSees", spec := "showSees", inPlace := ["internal/abi.NoEscape", "internal/bytealg.MakeNoZero", "internal/bytealg.IndexByteString", "internal/bytealg.IndexString"], named := ["internal/strconv.uint64pow10", "math/bits.deBruijn32tab", "math/bits.deBruijn64tab", "unicode/utf8.first", "unicode/utf8.acceptRanges", "strconv.isPrint16", "strconv.isNotPrint16", "strconv.isPrint32", "strconv.isNotPrint32", "strconv.isGraphic", "internal/bytealg.MaxLen"], apart := false, laid := [("math/bits.deBruijn32tab", laid_math_bits_deBruijn32tab), ("math/bits.deBruijn64tab", laid_math_bits_deBruijn64tab), ("internal/strconv.uint64pow10", laid_internal_strconv_uint64pow10), ("unicode/utf8.acceptRanges", laid_unicode_utf8_acceptRanges), ("strconv.isGraphic", laid_strconv_isGraphic), ("strconv.isNotPrint16", laid_strconv_isNotPrint16), ("strconv.isNotPrint32", laid_strconv_isNotPrint32), ("strconv.isPrint16", laid_strconv_isPrint16), ("strconv.isPrint32", laid_strconv_isPrint32), ("unicode/utf8.first", laid_unicode_utf8_first)], narrowed := true }
def ShowSeesUptoSaid : Prop := showSeesUptoRow.holds Tryd.pinned (OpenSpec.upto showSeesSpec)

end Rows
end Go.Proofs.YtnmbakibiaedhaaDoor
