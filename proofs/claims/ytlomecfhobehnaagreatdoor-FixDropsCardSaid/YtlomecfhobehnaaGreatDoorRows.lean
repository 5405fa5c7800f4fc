/-
  NARROWER THAN 'FOR EVERY INPUT', by the rows' own cells (each row's printed sentence says how): LayoutBack: laid · FixTwice: laid · FixSets: laid · FixDrops: laid.
  DERIVED. THE GIVEN ROWS OF THIS SEAT. 4 by the template 'for every input the law returns true; each argument reads behind the call as it read before'; 0 by the template 'total and deterministic' (their statements: YtlomecfhobehnaaGreatDoorTotals.lean).
  GIVEN WITH THE SEED: the statements are not yours to turn. If you find one false, say at which input.
  Laid BY PROGRAM, IN A SANDBOX (cutbox-rows.mjs): the forced cells as the released guide's own fill.sh prints them over the translation 6795da82c69d27ef… (all of the seat's roots in one cut). By AI agents, Wed Nov 11 2026. No macro, syntax, notation, axiom, sorry.
-/
import Derived.Test.YtlomecfhobehnaaGreatDoorChecked
import GoSem.Claim
import GoSem.ClaimJoined
import GoSem.ClaimMapViews
import Derived.JoinedTies
import Derived.KernelRfl
namespace Go.Proofs.YtlomecfhobehnaaGreatDoor
/- THE CELL 'sum', in the pinned program and in every row, IS THE sha256 OF THE DUMP (.gsa) THAT YtlomecfhobehnaaGreatDoorProg.lean LOADS. Nothing in Lean hashes anything: it is a label: what it is worth is what the hold of that sum in a sandbox is worth. -/
noncomputable def Tryz.pinned : Pinned := { name := "ytlomecfhobehnaagreatdoor", sum := "6795da82c69d27efc8972f5913239bd45c2b3a5c4b90321b140b678f945c06cc", checked := Tryz.checked }
namespace Rows
def none {H : Type} : Left H := { results := [], args := [] }

/- WHAT THE LISTED PACKAGE-LEVEL VARIABLES READ AS WHEN THE CALL BEGINS. Each datum BY PROGRAM (the guide's laid-datum.mjs) off the statement by which the dump's own 'gosem.cut.vars' lays the variable. In a bare row this is a premise. The card (YtlomecfhobehnaaGreatDoorCards.lean) ties it to the program's text. -/
def laid_errors_errorType {H : Type} : DataW H := .iface "internal/reflectlite.rtype" (.agg [.ptr (.lit (.string [101, 114, 114, 111, 114]))])
def laid_escritoire_lex_marks {H : Type} : DataW H := .agg [.lit (.string [61, 61]), .lit (.string [33, 61]), .lit (.string [123]), .lit (.string [125]), .lit (.string [91]), .lit (.string [93]), .lit (.string [40]), .lit (.string [41]), .lit (.string [59]), .lit (.string [44]), .lit (.string [61]), .lit (.string [43]), .lit (.string [45]), .lit (.string [42]), .lit (.string [38]), .lit (.string [124]), .lit (.string [60]), .lit (.string [62])]
def laid_escritoire_expr_levels {H : Type} : DataW H := .agg [.slice [.lit (.string [61, 61]), .lit (.string [33, 61]), .lit (.string [60]), .lit (.string [62])] [], .slice [.lit (.string [43]), .lit (.string [45]), .lit (.string [124])] [], .slice [.lit (.string [42]), .lit (.string [38])] []]

/-- 'escritoirekeep.LayoutBack': WHATEVER THE INPUT: true; the input reads as it did. -/
def layoutBackSpec : ChangeSpec := { name := "layoutBack", fn := fun _ => fun
  | [d1, d2, d3] => { results := [.lit (.bool true)], args := [d1, d2, d3] }
  | _ => none }
def layoutBackRow : OpenClaim := { program := "ytlomecfhobehnaagreatdoor", sum := "6795da82c69d27efc8972f5913239bd45c2b3a5c4b90321b140b678f945c06cc", func := "escritoire/escritoirekeep.LayoutBack", spec := "layoutBack", inPlace := ["internal/reflectlite.ValueOf", "(internal/reflectlite.Value).Type", "(internal/reflectlite.Value).IsNil", "internal/reflectlite.TypeOf", "(internal/reflectlite.Value).Elem", "(internal/reflectlite.Value).Set", "internal/abi.NoEscape", "internal/bytealg.MakeNoZero"], unfollowed := true, recurses := true, named := ["escritoire/lex.marks", "escritoire/expr.levels", "errors.errorType"], apart := false, laid := [("errors.errorType", laid_errors_errorType), ("escritoire/lex.marks", laid_escritoire_lex_marks), ("escritoire/expr.levels", laid_escritoire_expr_levels)] }
def LayoutBackSaid : Prop := layoutBackRow.holds Tryz.pinned (OpenSpec.ofChange layoutBackSpec)

/-- ITS FALSE NEIGHBOUR: 'it returns false'. Refute it at one input. -/
def layoutBackWrong : ChangeSpec := { name := "layoutBack", fn := fun _ => fun
  | [d1, d2, d3] => { results := [.lit (.bool false)], args := [d1, d2, d3] }
  | _ => none }
def LayoutBackWrongFalsely : Prop := layoutBackRow.holds Tryz.pinned (OpenSpec.ofChange layoutBackWrong)

/-- 'escritoirekeep.FixTwice': WHATEVER THE INPUT: true; the input reads as it did. -/
def fixTwiceSpec : ChangeSpec := { name := "fixTwice", fn := fun _ => fun
  | [d1, d2, d3] => { results := [.lit (.bool true)], args := [d1, d2, d3] }
  | _ => none }
def fixTwiceRow : OpenClaim := { program := "ytlomecfhobehnaagreatdoor", sum := "6795da82c69d27efc8972f5913239bd45c2b3a5c4b90321b140b678f945c06cc", func := "escritoire/escritoirekeep.FixTwice", spec := "fixTwice", inPlace := ["internal/reflectlite.ValueOf", "(internal/reflectlite.Value).Type", "(internal/reflectlite.Value).IsNil", "internal/reflectlite.TypeOf", "(internal/reflectlite.Value).Elem", "(internal/reflectlite.Value).Set", "internal/abi.NoEscape", "internal/bytealg.MakeNoZero"], unfollowed := true, recurses := true, named := ["escritoire/lex.marks", "escritoire/expr.levels", "errors.errorType"], apart := false, laid := [("errors.errorType", laid_errors_errorType), ("escritoire/lex.marks", laid_escritoire_lex_marks), ("escritoire/expr.levels", laid_escritoire_expr_levels)] }
def FixTwiceSaid : Prop := fixTwiceRow.holds Tryz.pinned (OpenSpec.ofChange fixTwiceSpec)

/-- ITS FALSE NEIGHBOUR: 'it returns false'. Refute it at one input. -/
def fixTwiceWrong : ChangeSpec := { name := "fixTwice", fn := fun _ => fun
  | [d1, d2, d3] => { results := [.lit (.bool false)], args := [d1, d2, d3] }
  | _ => none }
def FixTwiceWrongFalsely : Prop := fixTwiceRow.holds Tryz.pinned (OpenSpec.ofChange fixTwiceWrong)

/-- 'escritoirekeep.FixSets': WHATEVER THE INPUT: true; the input reads as it did. -/
def fixSetsSpec : ChangeSpec := { name := "fixSets", fn := fun _ => fun
  | [d1, d2, d3, d4, d5, d6] => { results := [.lit (.bool true)], args := [d1, d2, d3, d4, d5, d6] }
  | _ => none }
def fixSetsRow : OpenClaim := { program := "ytlomecfhobehnaagreatdoor", sum := "6795da82c69d27efc8972f5913239bd45c2b3a5c4b90321b140b678f945c06cc", func := "escritoire/escritoirekeep.FixSets", spec := "fixSets", inPlace := ["internal/reflectlite.ValueOf", "(internal/reflectlite.Value).Type", "(internal/reflectlite.Value).IsNil", "internal/reflectlite.TypeOf", "(internal/reflectlite.Value).Elem", "(internal/reflectlite.Value).Set", "internal/abi.NoEscape", "internal/bytealg.MakeNoZero"], unfollowed := true, recurses := true, named := ["escritoire/lex.marks", "escritoire/expr.levels", "errors.errorType"], apart := false, laid := [("errors.errorType", laid_errors_errorType), ("escritoire/lex.marks", laid_escritoire_lex_marks), ("escritoire/expr.levels", laid_escritoire_expr_levels)] }
def FixSetsSaid : Prop := fixSetsRow.holds Tryz.pinned (OpenSpec.ofChange fixSetsSpec)

/-- ITS FALSE NEIGHBOUR: 'it returns false'. Refute it at one input. -/
def fixSetsWrong : ChangeSpec := { name := "fixSets", fn := fun _ => fun
  | [d1, d2, d3, d4, d5, d6] => { results := [.lit (.bool false)], args := [d1, d2, d3, d4, d5, d6] }
  | _ => none }
def FixSetsWrongFalsely : Prop := fixSetsRow.holds Tryz.pinned (OpenSpec.ofChange fixSetsWrong)

/-- 'escritoirekeep.FixDrops': WHATEVER THE INPUT: true; the input reads as it did. -/
def fixDropsSpec : ChangeSpec := { name := "fixDrops", fn := fun _ => fun
  | [d1, d2, d3, d4] => { results := [.lit (.bool true)], args := [d1, d2, d3, d4] }
  | _ => none }
def fixDropsRow : OpenClaim := { program := "ytlomecfhobehnaagreatdoor", sum := "6795da82c69d27efc8972f5913239bd45c2b3a5c4b90321b140b678f945c06cc", func := "escritoire/escritoirekeep.FixDrops", spec := "fixDrops", inPlace := ["internal/reflectlite.ValueOf", "(internal/reflectlite.Value).Type", "(internal/reflectlite.Value).IsNil", "internal/reflectlite.TypeOf", "(internal/reflectlite.Value).Elem", "(internal/reflectlite.Value).Set", "internal/abi.NoEscape", "internal/bytealg.MakeNoZero", "slices.overlaps[escritoire/api.Node]"], unfollowed := true, recurses := true, named := ["escritoire/lex.marks", "escritoire/expr.levels", "errors.errorType"], apart := false, laid := [("errors.errorType", laid_errors_errorType), ("escritoire/lex.marks", laid_escritoire_lex_marks), ("escritoire/expr.levels", laid_escritoire_expr_levels)] }
def FixDropsSaid : Prop := fixDropsRow.holds Tryz.pinned (OpenSpec.ofChange fixDropsSpec)

/-- ITS FALSE NEIGHBOUR: 'it returns false'. Refute it at one input. -/
def fixDropsWrong : ChangeSpec := { name := "fixDrops", fn := fun _ => fun
  | [d1, d2, d3, d4] => { results := [.lit (.bool false)], args := [d1, d2, d3, d4] }
  | _ => none }
def FixDropsWrongFalsely : Prop := fixDropsRow.holds Tryz.pinned (OpenSpec.ofChange fixDropsWrong)

/- THE SECOND FORM. 'bulk': how many values and letters a reading holds, each counted each time it is reached (what is shared counts as often as it is met; a slice's spare places count too). A statement '..UptoSaid' is the law's where the arguments, and the package variables that the reading takes, are together of bulk at most 1048576: NARROWER than '..Said'. Prove '..Said' where nothing that the law and all that it calls make is longer than what came in: it says more and counts as full. Else prove '..UptoSaid'. A law counts once. -/
mutual
def uptoBulk {H : Type} : DataW H → Nat
  | .lit (.string bytes) => bytes.length + 1
  | .lit _ => 1
  | .nil => 1
  | .ptr d => uptoBulk d + 1
  | .slice elems spare => uptoBulkAll elems + uptoBulkAll spare + 1
  | .agg parts => uptoBulkAll parts + 1
  | .iface _ d => uptoBulk d + 1
  | .map entries => uptoBulkEntries entries + 1
  | .held _ => 1
def uptoBulkAll {H : Type} : List (DataW H) → Nat
  | [] => 0
  | d :: r => uptoBulk d + uptoBulkAll r
def uptoBulkEntries {H : Type} : List (Lit × DataW H) → Nat
  | [] => 0
  | x :: r => uptoBulkEntry x + uptoBulkEntries r
def uptoBulkEntry {H : Type} : Lit × DataW H → Nat
  | (.string bytes, d) => bytes.length + uptoBulk d + 1
  | (_, d) => uptoBulk d + 1
 end
def uptoSmall : (H : Type) → List (DataW H) → Bool := fun _ ds => decide (uptoBulkAll ds ≤ 1048576)
def OpenSpec.upto (s : _root_.Go.ChangeSpec) : _root_.Go.OpenSpec := { _root_.Go.OpenSpec.ofChange s with cond := some uptoSmall }

/-- 'escritoirekeep.LayoutBack', WHERE WHAT IT READS IS OF BULK AT MOST 1048576: true; the input reads as it did. -/
def layoutBackUptoRow : OpenClaim := { program := "ytlomecfhobehnaagreatdoor", sum := "6795da82c69d27efc8972f5913239bd45c2b3a5c4b90321b140b678f945c06cc", func := "escritoire/escritoirekeep.LayoutBack", spec := "layoutBack", inPlace := ["internal/reflectlite.ValueOf", "(internal/reflectlite.Value).Type", "(internal/reflectlite.Value).IsNil", "internal/reflectlite.TypeOf", "(internal/reflectlite.Value).Elem", "(internal/reflectlite.Value).Set", "internal/abi.NoEscape", "internal/bytealg.MakeNoZero"], unfollowed := true, recurses := true, named := ["escritoire/lex.marks", "escritoire/expr.levels", "errors.errorType"], apart := false, laid := [("errors.errorType", laid_errors_errorType), ("escritoire/lex.marks", laid_escritoire_lex_marks), ("escritoire/expr.levels", laid_escritoire_expr_levels)], narrowed := true }
def LayoutBackUptoSaid : Prop := layoutBackUptoRow.holds Tryz.pinned (OpenSpec.upto layoutBackSpec)

/-- 'escritoirekeep.FixTwice', WHERE WHAT IT READS IS OF BULK AT MOST 1048576: true; the input reads as it did. -/
def fixTwiceUptoRow : OpenClaim := { program := "ytlomecfhobehnaagreatdoor", sum := "6795da82c69d27efc8972f5913239bd45c2b3a5c4b90321b140b678f945c06cc", func := "escritoire/escritoirekeep.FixTwice", spec := "fixTwice", inPlace := ["internal/reflectlite.ValueOf", "(internal/reflectlite.Value).Type", "(internal/reflectlite.Value).IsNil", "internal/reflectlite.TypeOf", "(internal/reflectlite.Value).Elem", "(internal/reflectlite.Value).Set", "internal/abi.NoEscape", "internal/bytealg.MakeNoZero"], unfollowed := true, recurses := true, named := ["escritoire/lex.marks", "escritoire/expr.levels", "errors.errorType"], apart := false, laid := [("errors.errorType", laid_errors_errorType), ("escritoire/lex.marks", laid_escritoire_lex_marks), ("escritoire/expr.levels", laid_escritoire_expr_levels)], narrowed := true }
def FixTwiceUptoSaid : Prop := fixTwiceUptoRow.holds Tryz.pinned (OpenSpec.upto fixTwiceSpec)

/-- 'escritoirekeep.FixSets', WHERE WHAT IT READS IS OF BULK AT MOST 1048576: true; the input reads as it did. -/
def fixSetsUptoRow : OpenClaim := { program := "ytlomecfhobehnaagreatdoor", sum := "6795da82c69d27efc8972f5913239bd45c2b3a5c4b90321b140b678f945c06cc", func := "escritoire/escritoirekeep.FixSets", spec := "fixSets", inPlace := ["internal/reflectlite.ValueOf", "(internal/reflectlite.Value).Type", "(internal/reflectlite.Value).IsNil", "internal/reflectlite.TypeOf", "(internal/reflectlite.Value).Elem", "(internal/reflectlite.Value).Set", "internal/abi.NoEscape", "internal/bytealg.MakeNoZero"], unfollowed := true, recurses := true, named := ["escritoire/lex.marks", "escritoire/expr.levels", "errors.errorType"], apart := false, laid := [("errors.errorType", laid_errors_errorType), ("escritoire/lex.marks", laid_escritoire_lex_marks), ("escritoire/expr.levels", laid_escritoire_expr_levels)], narrowed := true }
def FixSetsUptoSaid : Prop := fixSetsUptoRow.holds Tryz.pinned (OpenSpec.upto fixSetsSpec)

/-- 'escritoirekeep.FixDrops', WHERE WHAT IT READS IS OF BULK AT MOST 1048576: true; the input reads as it did. -/
def fixDropsUptoRow : OpenClaim := { program := "ytlomecfhobehnaagreatdoor", sum := "6795da82c69d27efc8972f5913239bd45c2b3a5c4b90321b140b678f945c06cc", func := "escritoire/escritoirekeep.FixDrops", spec := "fixDrops", inPlace := ["internal/reflectlite.ValueOf", "(internal/reflectlite.Value).Type", "(internal/reflectlite.Value).IsNil", "internal/reflectlite.TypeOf", "(internal/reflectlite.Value).Elem", "(internal/reflectlite.Value).Set", "internal/abi.NoEscape", "internal/bytealg.MakeNoZero", "slices.overlaps[escritoire/api.Node]"], unfollowed := true, recurses := true, named := ["escritoire/lex.marks", "escritoire/expr.levels", "errors.errorType"], apart := false, laid := [("errors.errorType", laid_errors_errorType), ("escritoire/lex.marks", laid_escritoire_lex_marks), ("escritoire/expr.levels", laid_escritoire_expr_levels)], narrowed := true }
def FixDropsUptoSaid : Prop := fixDropsUptoRow.holds Tryz.pinned (OpenSpec.upto fixDropsSpec)

end Rows
end Go.Proofs.YtlomecfhobehnaaGreatDoor
