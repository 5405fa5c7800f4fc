/-
  No cell of these rows narrows 'for every input' (looked for: loops, veiled, ifaces, maps, wideKeys, modest, calm, conditions, laid).
  DERIVED. THE GIVEN ROWS OF THIS SEAT. 5 by the template 'for every input the law returns true; each argument reads behind the call as it read before'; 0 by the template 'total and deterministic' (their statements: YtnldobfafaajjaaTotals.lean).
  GIVEN WITH THE SEED: the statements are not yours to turn. If you find one false, say at which input.
  Laid BY PROGRAM, IN A SANDBOX (cutbox-rows.mjs): the forced cells as the released guide's own fill.sh prints them over the translation ad3c3c60e1c5ef6a… (all of the seat's roots in one cut). By AI agents, Wed Nov 11 2026. No macro, syntax, notation, axiom, sorry.
-/
import Derived.Test.YtnldobfafaajjaaChecked
import GoSem.Claim
import GoSem.ClaimJoined
import GoSem.ClaimMapViews
import Derived.JoinedTies
import Derived.KernelRfl
namespace Go.Proofs.Ytnldobfafaajjaa
/- THE CELL 'sum', in the pinned program and in every row, IS THE sha256 OF THE DUMP (.gsa) THAT YtnldobfafaajjaaProg.lean LOADS. Nothing in Lean hashes anything: it is a label: what it is worth is what the hold of that sum in a sandbox is worth. -/
noncomputable def Try.pinned : Pinned := { name := "ytnldobfafaajjaa", sum := "ad3c3c60e1c5ef6aadfbca39ac8d6342e01d1fe22b4c4e563e0e5bdfb22ba328", checked := Try.checked }
namespace Rows
def none {H : Type} : Left H := { results := [], args := [] }

/-- 'escritoirekeep.LzRuns': WHATEVER THE INPUT: true; the input reads as it did. -/
def lzRunsSpec : ChangeSpec := { name := "lzRuns", fn := fun _ => fun
  | [d1, d2] => { results := [.lit (.bool true)], args := [d1, d2] }
  | _ => none }
def lzRunsRow : OpenClaim := { program := "ytnldobfafaajjaa", sum := "ad3c3c60e1c5ef6aadfbca39ac8d6342e01d1fe22b4c4e563e0e5bdfb22ba328", func := "escritoire/escritoirekeep.LzRuns", spec := "lzRuns", inPlace := ["internal/abi.NoEscape", "internal/bytealg.MakeNoZero"], unfollowed := true, recurses := true, apart := false }
def LzRunsSaid : Prop := lzRunsRow.holds Try.pinned (OpenSpec.ofChange lzRunsSpec)

/-- ITS FALSE NEIGHBOUR: 'it returns false'. Refute it at one input. -/
def lzRunsWrong : ChangeSpec := { name := "lzRuns", fn := fun _ => fun
  | [d1, d2] => { results := [.lit (.bool false)], args := [d1, d2] }
  | _ => none }
def LzRunsWrongFalsely : Prop := lzRunsRow.holds Try.pinned (OpenSpec.ofChange lzRunsWrong)

/-- 'escritoirekeep.SpansFollow': WHATEVER THE INPUT: true; the input reads as it did. -/
def spansFollowSpec : ChangeSpec := { name := "spansFollow", fn := fun _ => fun
  | [d1, d2, d3, d4, d5, d6] => { results := [.lit (.bool true)], args := [d1, d2, d3, d4, d5, d6] }
  | _ => none }
def spansFollowRow : OpenClaim := { program := "ytnldobfafaajjaa", sum := "ad3c3c60e1c5ef6aadfbca39ac8d6342e01d1fe22b4c4e563e0e5bdfb22ba328", func := "escritoire/escritoirekeep.SpansFollow", spec := "spansFollow", unfollowed := true, recurses := true, apart := false }
def SpansFollowSaid : Prop := spansFollowRow.holds Try.pinned (OpenSpec.ofChange spansFollowSpec)

/-- ITS FALSE NEIGHBOUR: 'it returns false'. Refute it at one input. -/
def spansFollowWrong : ChangeSpec := { name := "spansFollow", fn := fun _ => fun
  | [d1, d2, d3, d4, d5, d6] => { results := [.lit (.bool false)], args := [d1, d2, d3, d4, d5, d6] }
  | _ => none }
def SpansFollowWrongFalsely : Prop := spansFollowRow.holds Try.pinned (OpenSpec.ofChange spansFollowWrong)

/-- 'escritoirekeep.SpansOne': WHATEVER THE INPUT: true; the input reads as it did. -/
def spansOneSpec : ChangeSpec := { name := "spansOne", fn := fun _ => fun
  | [d1, d2] => { results := [.lit (.bool true)], args := [d1, d2] }
  | _ => none }
def spansOneRow : OpenClaim := { program := "ytnldobfafaajjaa", sum := "ad3c3c60e1c5ef6aadfbca39ac8d6342e01d1fe22b4c4e563e0e5bdfb22ba328", func := "escritoire/escritoirekeep.SpansOne", spec := "spansOne", unfollowed := true, recurses := true, apart := false }
def SpansOneSaid : Prop := spansOneRow.holds Try.pinned (OpenSpec.ofChange spansOneSpec)

/-- ITS FALSE NEIGHBOUR: 'it returns false'. Refute it at one input. -/
def spansOneWrong : ChangeSpec := { name := "spansOne", fn := fun _ => fun
  | [d1, d2] => { results := [.lit (.bool false)], args := [d1, d2] }
  | _ => none }
def SpansOneWrongFalsely : Prop := spansOneRow.holds Try.pinned (OpenSpec.ofChange spansOneWrong)

/-- 'escritoirekeep.SpansLaws': WHATEVER THE INPUT: true; the input reads as it did. -/
def spansLawsSpec : ChangeSpec := { name := "spansLaws", fn := fun _ => fun
  | [d1, d2, d3, d4] => { results := [.lit (.bool true)], args := [d1, d2, d3, d4] }
  | _ => none }
def spansLawsRow : OpenClaim := { program := "ytnldobfafaajjaa", sum := "ad3c3c60e1c5ef6aadfbca39ac8d6342e01d1fe22b4c4e563e0e5bdfb22ba328", func := "escritoire/escritoirekeep.SpansLaws", spec := "spansLaws", unfollowed := true, recurses := true, apart := false }
def SpansLawsSaid : Prop := spansLawsRow.holds Try.pinned (OpenSpec.ofChange spansLawsSpec)

/-- ITS FALSE NEIGHBOUR: 'it returns false'. Refute it at one input. -/
def spansLawsWrong : ChangeSpec := { name := "spansLaws", fn := fun _ => fun
  | [d1, d2, d3, d4] => { results := [.lit (.bool false)], args := [d1, d2, d3, d4] }
  | _ => none }
def SpansLawsWrongFalsely : Prop := spansLawsRow.holds Try.pinned (OpenSpec.ofChange spansLawsWrong)

/-- 'escritoirekeep.SuffixOrder': WHATEVER THE INPUT: true; the input reads as it did. -/
def suffixOrderSpec : ChangeSpec := { name := "suffixOrder", fn := fun _ => fun
  | [d] => { results := [.lit (.bool true)], args := [d] }
  | _ => none }
def suffixOrderRow : OpenClaim := { program := "ytnldobfafaajjaa", sum := "ad3c3c60e1c5ef6aadfbca39ac8d6342e01d1fe22b4c4e563e0e5bdfb22ba328", func := "escritoire/escritoirekeep.SuffixOrder", spec := "suffixOrder", unfollowed := true, recurses := true, apart := false }
def SuffixOrderSaid : Prop := suffixOrderRow.holds Try.pinned (OpenSpec.ofChange suffixOrderSpec)

/-- ITS FALSE NEIGHBOUR: 'it returns false'. Refute it at one input. -/
def suffixOrderWrong : ChangeSpec := { name := "suffixOrder", fn := fun _ => fun
  | [d] => { results := [.lit (.bool false)], args := [d] }
  | _ => none }
def SuffixOrderWrongFalsely : Prop := suffixOrderRow.holds Try.pinned (OpenSpec.ofChange suffixOrderWrong)

/- THE SECOND FORM. 'bulk': how many values and letters a reading holds, each counted each time it is reached (what is shared counts as often as it is met; a slice's spare places count too). A statement '..UptoSaid' is the law's where the arguments, and the package variables that the reading takes, are together of bulk at most 1048576: NARROWER than '..Said'. Prove '..Said' where nothing that the law and all that it calls make is longer than what came in: it says more and counts as full. Else prove '..UptoSaid'. A law counts once. -/
mutual
def uptoBulk {H : Type} : DataW H → Nat
  | .lit (.string bytes) => bytes.length + 1
  | .lit _ => 1
  | .nil => 1
  | .ptr d => uptoBulk d + 1
  | .slice elems spare => uptoBulkAll elems + uptoBulkAll spare + 1
  | .agg parts => uptoBulkAll parts + 1
  | .iface _ d => uptoBulk d + 1
  | .map entries => uptoBulkEntries entries + 1
  | .held _ => 1
def uptoBulkAll {H : Type} : List (DataW H) → Nat
  | [] => 0
  | d :: r => uptoBulk d + uptoBulkAll r
def uptoBulkEntries {H : Type} : List (Lit × DataW H) → Nat
  | [] => 0
  | x :: r => uptoBulkEntry x + uptoBulkEntries r
def uptoBulkEntry {H : Type} : Lit × DataW H → Nat
  | (.string bytes, d) => bytes.length + uptoBulk d + 1
  | (_, d) => uptoBulk d + 1
 end
def uptoSmall : (H : Type) → List (DataW H) → Bool := fun _ ds => decide (uptoBulkAll ds ≤ 1048576)
def OpenSpec.upto (s : _root_.Go.ChangeSpec) : _root_.Go.OpenSpec := { _root_.Go.OpenSpec.ofChange s with cond := some uptoSmall }

/-- 'escritoirekeep.LzRuns', WHERE WHAT IT READS IS OF BULK AT MOST 1048576: true; the input reads as it did. -/
def lzRunsUptoRow : OpenClaim := { program := "ytnldobfafaajjaa", sum := "ad3c3c60e1c5ef6aadfbca39ac8d6342e01d1fe22b4c4e563e0e5bdfb22ba328", func := "escritoire/escritoirekeep.LzRuns", spec := "lzRuns", inPlace := ["internal/abi.NoEscape", "internal/bytealg.MakeNoZero"], unfollowed := true, recurses := true, apart := false, narrowed := true }
def LzRunsUptoSaid : Prop := lzRunsUptoRow.holds Try.pinned (OpenSpec.upto lzRunsSpec)

/-- 'escritoirekeep.SpansFollow', WHERE WHAT IT READS IS OF BULK AT MOST 1048576: true; the input reads as it did. -/
def spansFollowUptoRow : OpenClaim := { program := "ytnldobfafaajjaa", sum := "ad3c3c60e1c5ef6aadfbca39ac8d6342e01d1fe22b4c4e563e0e5bdfb22ba328", func := "escritoire/escritoirekeep.SpansFollow", spec := "spansFollow", unfollowed := true, recurses := true, apart := false, narrowed := true }
def SpansFollowUptoSaid : Prop := spansFollowUptoRow.holds Try.pinned (OpenSpec.upto spansFollowSpec)

/-- 'escritoirekeep.SpansOne', WHERE WHAT IT READS IS OF BULK AT MOST 1048576: true; the input reads as it did. -/
def spansOneUptoRow : OpenClaim := { program := "ytnldobfafaajjaa", sum := "ad3c3c60e1c5ef6aadfbca39ac8d6342e01d1fe22b4c4e563e0e5bdfb22ba328", func := "escritoire/escritoirekeep.SpansOne", spec := "spansOne", unfollowed := true, recurses := true, apart := false, narrowed := true }
def SpansOneUptoSaid : Prop := spansOneUptoRow.holds Try.pinned (OpenSpec.upto spansOneSpec)

/-- 'escritoirekeep.SpansLaws', WHERE WHAT IT READS IS OF BULK AT MOST 1048576: true; the input reads as it did. -/
def spansLawsUptoRow : OpenClaim := { program := "ytnldobfafaajjaa", sum := "ad3c3c60e1c5ef6aadfbca39ac8d6342e01d1fe22b4c4e563e0e5bdfb22ba328", func := "escritoire/escritoirekeep.SpansLaws", spec := "spansLaws", unfollowed := true, recurses := true, apart := false, narrowed := true }
def SpansLawsUptoSaid : Prop := spansLawsUptoRow.holds Try.pinned (OpenSpec.upto spansLawsSpec)

/-- 'escritoirekeep.SuffixOrder', WHERE WHAT IT READS IS OF BULK AT MOST 1048576: true; the input reads as it did. -/
def suffixOrderUptoRow : OpenClaim := { program := "ytnldobfafaajjaa", sum := "ad3c3c60e1c5ef6aadfbca39ac8d6342e01d1fe22b4c4e563e0e5bdfb22ba328", func := "escritoire/escritoirekeep.SuffixOrder", spec := "suffixOrder", unfollowed := true, recurses := true, apart := false, narrowed := true }
def SuffixOrderUptoSaid : Prop := suffixOrderUptoRow.holds Try.pinned (OpenSpec.upto suffixOrderSpec)

end Rows
end Go.Proofs.Ytnldobfafaajjaa
