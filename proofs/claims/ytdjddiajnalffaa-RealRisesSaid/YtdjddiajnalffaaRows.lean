/-
  No cell of these rows narrows 'for every input' (looked for: loops, veiled, ifaces, maps, wideKeys, modest, calm, conditions, laid).
  DERIVED. THE GIVEN ROWS OF THIS SEAT. 12 by the template 'for every input the law returns true; each argument reads behind the call as it read before'; 0 by the template 'total and deterministic' (their statements: YtdjddiajnalffaaTotals.lean).
  GIVEN WITH THE SEED: the statements are not yours to turn. If you find one false, say at which input.
  Laid BY PROGRAM, IN A SANDBOX (cutbox-rows.mjs): the forced cells as the released guide's own fill.sh prints them over the translation d03790823baee44d… (all of the seat's roots in one cut). By AI agents, Wed Nov 11 2026. No macro, syntax, notation, axiom, sorry.
-/
import Derived.Test.YtdjddiajnalffaaChecked
import GoSem.Claim
import GoSem.ClaimJoined
import GoSem.ClaimMapViews
import Derived.JoinedTies
import Derived.KernelRfl
namespace Go.Proofs.Ytdjddiajnalffaa
/- THE CELL 'sum', in the pinned program and in every row, IS THE sha256 OF THE DUMP (.gsa) THAT YtdjddiajnalffaaProg.lean LOADS. Nothing in Lean hashes anything: it is a label: what it is worth is what the hold of that sum in a sandbox is worth. -/
noncomputable def Try.pinned : Pinned := { name := "ytdjddiajnalffaa", sum := "d03790823baee44d51abc986a5461cc0ac3abb372a9711b0884d01dfaf71a7b3", checked := Try.checked }
namespace Rows
def none {H : Type} : Left H := { results := [], args := [] }

/-- 'escritoirekeep.SumsLinear': WHATEVER THE INPUT: true; the input reads as it did. -/
def sumsLinearSpec : ChangeSpec := { name := "sumsLinear", fn := fun _ => fun
  | [d1, d2, d3, d4, d5, d6, d7, d8] => { results := [.lit (.bool true)], args := [d1, d2, d3, d4, d5, d6, d7, d8] }
  | _ => none }
def sumsLinearRow : OpenClaim := { program := "ytdjddiajnalffaa", sum := "d03790823baee44d51abc986a5461cc0ac3abb372a9711b0884d01dfaf71a7b3", func := "escritoire/escritoirekeep.SumsLinear", spec := "sumsLinear", apart := false }
def SumsLinearSaid : Prop := sumsLinearRow.holds Try.pinned (OpenSpec.ofChange sumsLinearSpec)

/-- ITS FALSE NEIGHBOUR: 'it returns false'. Refute it at one input. -/
def sumsLinearWrong : ChangeSpec := { name := "sumsLinear", fn := fun _ => fun
  | [d1, d2, d3, d4, d5, d6, d7, d8] => { results := [.lit (.bool false)], args := [d1, d2, d3, d4, d5, d6, d7, d8] }
  | _ => none }
def SumsLinearWrongFalsely : Prop := sumsLinearRow.holds Try.pinned (OpenSpec.ofChange sumsLinearWrong)

/-- 'escritoirekeep.SumsBurst': WHATEVER THE INPUT: true; the input reads as it did. -/
def sumsBurstSpec : ChangeSpec := { name := "sumsBurst", fn := fun _ => fun
  | [d1, d2, d3] => { results := [.lit (.bool true)], args := [d1, d2, d3] }
  | _ => none }
def sumsBurstRow : OpenClaim := { program := "ytdjddiajnalffaa", sum := "d03790823baee44d51abc986a5461cc0ac3abb372a9711b0884d01dfaf71a7b3", func := "escritoire/escritoirekeep.SumsBurst", spec := "sumsBurst", apart := false }
def SumsBurstSaid : Prop := sumsBurstRow.holds Try.pinned (OpenSpec.ofChange sumsBurstSpec)

/-- ITS FALSE NEIGHBOUR: 'it returns false'. Refute it at one input. -/
def sumsBurstWrong : ChangeSpec := { name := "sumsBurst", fn := fun _ => fun
  | [d1, d2, d3] => { results := [.lit (.bool false)], args := [d1, d2, d3] }
  | _ => none }
def SumsBurstWrongFalsely : Prop := sumsBurstRow.holds Try.pinned (OpenSpec.ofChange sumsBurstWrong)

/-- 'escritoirekeep.SumsSwap': WHATEVER THE INPUT: true; the input reads as it did. -/
def sumsSwapSpec : ChangeSpec := { name := "sumsSwap", fn := fun _ => fun
  | [d1, d2] => { results := [.lit (.bool true)], args := [d1, d2] }
  | _ => none }
def sumsSwapRow : OpenClaim := { program := "ytdjddiajnalffaa", sum := "d03790823baee44d51abc986a5461cc0ac3abb372a9711b0884d01dfaf71a7b3", func := "escritoire/escritoirekeep.SumsSwap", spec := "sumsSwap", apart := false }
def SumsSwapSaid : Prop := sumsSwapRow.holds Try.pinned (OpenSpec.ofChange sumsSwapSpec)

/-- ITS FALSE NEIGHBOUR: 'it returns false'. Refute it at one input. -/
def sumsSwapWrong : ChangeSpec := { name := "sumsSwap", fn := fun _ => fun
  | [d1, d2] => { results := [.lit (.bool false)], args := [d1, d2] }
  | _ => none }
def SumsSwapWrongFalsely : Prop := sumsSwapRow.holds Try.pinned (OpenSpec.ofChange sumsSwapWrong)

/-- 'escritoirekeep.SumsForced': WHATEVER THE INPUT: true; the input reads as it did. -/
def sumsForcedSpec : ChangeSpec := { name := "sumsForced", fn := fun _ => fun
  | [d1, d2, d3, d4, d5, d6, d7, d8, d9] => { results := [.lit (.bool true)], args := [d1, d2, d3, d4, d5, d6, d7, d8, d9] }
  | _ => none }
def sumsForcedRow : OpenClaim := { program := "ytdjddiajnalffaa", sum := "d03790823baee44d51abc986a5461cc0ac3abb372a9711b0884d01dfaf71a7b3", func := "escritoire/escritoirekeep.SumsForced", spec := "sumsForced", apart := false }
def SumsForcedSaid : Prop := sumsForcedRow.holds Try.pinned (OpenSpec.ofChange sumsForcedSpec)

/-- ITS FALSE NEIGHBOUR: 'it returns false'. Refute it at one input. -/
def sumsForcedWrong : ChangeSpec := { name := "sumsForced", fn := fun _ => fun
  | [d1, d2, d3, d4, d5, d6, d7, d8, d9] => { results := [.lit (.bool false)], args := [d1, d2, d3, d4, d5, d6, d7, d8, d9] }
  | _ => none }
def SumsForcedWrongFalsely : Prop := sumsForcedRow.holds Try.pinned (OpenSpec.ofChange sumsForcedWrong)

/-- 'escritoirekeep.LzBack': WHATEVER THE INPUT: true; the input reads as it did. -/
def lzBackSpec : ChangeSpec := { name := "lzBack", fn := fun _ => fun
  | [d] => { results := [.lit (.bool true)], args := [d] }
  | _ => none }
def lzBackRow : OpenClaim := { program := "ytdjddiajnalffaa", sum := "d03790823baee44d51abc986a5461cc0ac3abb372a9711b0884d01dfaf71a7b3", func := "escritoire/escritoirekeep.LzBack", spec := "lzBack", unfollowed := true, recurses := true, apart := false }
def LzBackSaid : Prop := lzBackRow.holds Try.pinned (OpenSpec.ofChange lzBackSpec)

/-- ITS FALSE NEIGHBOUR: 'it returns false'. Refute it at one input. -/
def lzBackWrong : ChangeSpec := { name := "lzBack", fn := fun _ => fun
  | [d] => { results := [.lit (.bool false)], args := [d] }
  | _ => none }
def LzBackWrongFalsely : Prop := lzBackRow.holds Try.pinned (OpenSpec.ofChange lzBackWrong)

/-- 'escritoirekeep.FindMirror': WHATEVER THE INPUT: true; the input reads as it did. -/
def findMirrorSpec : ChangeSpec := { name := "findMirror", fn := fun _ => fun
  | [d1, d2] => { results := [.lit (.bool true)], args := [d1, d2] }
  | _ => none }
def findMirrorRow : OpenClaim := { program := "ytdjddiajnalffaa", sum := "d03790823baee44d51abc986a5461cc0ac3abb372a9711b0884d01dfaf71a7b3", func := "escritoire/escritoirekeep.FindMirror", spec := "findMirror", apart := false }
def FindMirrorSaid : Prop := findMirrorRow.holds Try.pinned (OpenSpec.ofChange findMirrorSpec)

/-- ITS FALSE NEIGHBOUR: 'it returns false'. Refute it at one input. -/
def findMirrorWrong : ChangeSpec := { name := "findMirror", fn := fun _ => fun
  | [d1, d2] => { results := [.lit (.bool false)], args := [d1, d2] }
  | _ => none }
def FindMirrorWrongFalsely : Prop := findMirrorRow.holds Try.pinned (OpenSpec.ofChange findMirrorWrong)

/-- 'escritoirekeep.FindPeriods': WHATEVER THE INPUT: true; the input reads as it did. -/
def findPeriodsSpec : ChangeSpec := { name := "findPeriods", fn := fun _ => fun
  | [d1, d2, d3] => { results := [.lit (.bool true)], args := [d1, d2, d3] }
  | _ => none }
def findPeriodsRow : OpenClaim := { program := "ytdjddiajnalffaa", sum := "d03790823baee44d51abc986a5461cc0ac3abb372a9711b0884d01dfaf71a7b3", func := "escritoire/escritoirekeep.FindPeriods", spec := "findPeriods", apart := false }
def FindPeriodsSaid : Prop := findPeriodsRow.holds Try.pinned (OpenSpec.ofChange findPeriodsSpec)

/-- ITS FALSE NEIGHBOUR: 'it returns false'. Refute it at one input. -/
def findPeriodsWrong : ChangeSpec := { name := "findPeriods", fn := fun _ => fun
  | [d1, d2, d3] => { results := [.lit (.bool false)], args := [d1, d2, d3] }
  | _ => none }
def FindPeriodsWrongFalsely : Prop := findPeriodsRow.holds Try.pinned (OpenSpec.ofChange findPeriodsWrong)

/-- 'escritoirekeep.FindPlain': WHATEVER THE INPUT: true; the input reads as it did. -/
def findPlainSpec : ChangeSpec := { name := "findPlain", fn := fun _ => fun
  | [d1, d2, d3] => { results := [.lit (.bool true)], args := [d1, d2, d3] }
  | _ => none }
def findPlainRow : OpenClaim := { program := "ytdjddiajnalffaa", sum := "d03790823baee44d51abc986a5461cc0ac3abb372a9711b0884d01dfaf71a7b3", func := "escritoire/escritoirekeep.FindPlain", spec := "findPlain", apart := false }
def FindPlainSaid : Prop := findPlainRow.holds Try.pinned (OpenSpec.ofChange findPlainSpec)

/-- ITS FALSE NEIGHBOUR: 'it returns false'. Refute it at one input. -/
def findPlainWrong : ChangeSpec := { name := "findPlain", fn := fun _ => fun
  | [d1, d2, d3] => { results := [.lit (.bool false)], args := [d1, d2, d3] }
  | _ => none }
def FindPlainWrongFalsely : Prop := findPlainRow.holds Try.pinned (OpenSpec.ofChange findPlainWrong)

/-- 'escritoirekeep.RealBack': WHATEVER THE INPUT: true; the input reads as it did. -/
def realBackSpec : ChangeSpec := { name := "realBack", fn := fun _ => fun
  | [d1, d2] => { results := [.lit (.bool true)], args := [d1, d2] }
  | _ => none }
def realBackRow : OpenClaim := { program := "ytdjddiajnalffaa", sum := "d03790823baee44d51abc986a5461cc0ac3abb372a9711b0884d01dfaf71a7b3", func := "escritoire/escritoirekeep.RealBack", spec := "realBack", apart := false }
def RealBackSaid : Prop := realBackRow.holds Try.pinned (OpenSpec.ofChange realBackSpec)

/-- ITS FALSE NEIGHBOUR: 'it returns false'. Refute it at one input. -/
def realBackWrong : ChangeSpec := { name := "realBack", fn := fun _ => fun
  | [d1, d2] => { results := [.lit (.bool false)], args := [d1, d2] }
  | _ => none }
def RealBackWrongFalsely : Prop := realBackRow.holds Try.pinned (OpenSpec.ofChange realBackWrong)

/-- 'escritoirekeep.RealRises': WHATEVER THE INPUT: true; the input reads as it did. -/
def realRisesSpec : ChangeSpec := { name := "realRises", fn := fun _ => fun
  | [d1, d2] => { results := [.lit (.bool true)], args := [d1, d2] }
  | _ => none }
def realRisesRow : OpenClaim := { program := "ytdjddiajnalffaa", sum := "d03790823baee44d51abc986a5461cc0ac3abb372a9711b0884d01dfaf71a7b3", func := "escritoire/escritoirekeep.RealRises", spec := "realRises", inPlace := ["math.Float64frombits", "math.Float32frombits"], apart := false }
def RealRisesSaid : Prop := realRisesRow.holds Try.pinned (OpenSpec.ofChange realRisesSpec)

/-- ITS FALSE NEIGHBOUR: 'it returns false'. Refute it at one input. -/
def realRisesWrong : ChangeSpec := { name := "realRises", fn := fun _ => fun
  | [d1, d2] => { results := [.lit (.bool false)], args := [d1, d2] }
  | _ => none }
def RealRisesWrongFalsely : Prop := realRisesRow.holds Try.pinned (OpenSpec.ofChange realRisesWrong)

/-- 'escritoirekeep.RealTrue': WHATEVER THE INPUT: true; the input reads as it did. -/
def realTrueSpec : ChangeSpec := { name := "realTrue", fn := fun _ => fun
  | [d] => { results := [.lit (.bool true)], args := [d] }
  | _ => none }
def realTrueRow : OpenClaim := { program := "ytdjddiajnalffaa", sum := "d03790823baee44d51abc986a5461cc0ac3abb372a9711b0884d01dfaf71a7b3", func := "escritoire/escritoirekeep.RealTrue", spec := "realTrue", inPlace := ["math.Float32frombits", "math.Float64frombits", "math.Float64bits"], apart := false }
def RealTrueSaid : Prop := realTrueRow.holds Try.pinned (OpenSpec.ofChange realTrueSpec)

/-- ITS FALSE NEIGHBOUR: 'it returns false'. Refute it at one input. -/
def realTrueWrong : ChangeSpec := { name := "realTrue", fn := fun _ => fun
  | [d] => { results := [.lit (.bool false)], args := [d] }
  | _ => none }
def RealTrueWrongFalsely : Prop := realTrueRow.holds Try.pinned (OpenSpec.ofChange realTrueWrong)

/-- 'escritoirekeep.RealNearest': WHATEVER THE INPUT: true; the input reads as it did. -/
def realNearestSpec : ChangeSpec := { name := "realNearest", fn := fun _ => fun
  | [d] => { results := [.lit (.bool true)], args := [d] }
  | _ => none }
def realNearestRow : OpenClaim := { program := "ytdjddiajnalffaa", sum := "d03790823baee44d51abc986a5461cc0ac3abb372a9711b0884d01dfaf71a7b3", func := "escritoire/escritoirekeep.RealNearest", spec := "realNearest", inPlace := ["math.Float64frombits", "math.Float32frombits", "math.Float32bits"], apart := false }
def RealNearestSaid : Prop := realNearestRow.holds Try.pinned (OpenSpec.ofChange realNearestSpec)

/-- ITS FALSE NEIGHBOUR: 'it returns false'. Refute it at one input. -/
def realNearestWrong : ChangeSpec := { name := "realNearest", fn := fun _ => fun
  | [d] => { results := [.lit (.bool false)], args := [d] }
  | _ => none }
def RealNearestWrongFalsely : Prop := realNearestRow.holds Try.pinned (OpenSpec.ofChange realNearestWrong)

/- THE SECOND FORM. 'bulk': how many values and letters a reading holds, each counted each time it is reached (what is shared counts as often as it is met; a slice's spare places count too). A statement '..UptoSaid' is the law's where the arguments, and the package variables that the reading takes, are together of bulk at most 1048576: NARROWER than '..Said'. Prove '..Said' where nothing that the law and all that it calls make is longer than what came in: it says more and counts as full. Else prove '..UptoSaid'. A law counts once. -/
mutual
def uptoBulk {H : Type} : DataW H → Nat
  | .lit (.string bytes) => bytes.length + 1
  | .lit _ => 1
  | .nil => 1
  | .ptr d => uptoBulk d + 1
  | .slice elems spare => uptoBulkAll elems + uptoBulkAll spare + 1
  | .agg parts => uptoBulkAll parts + 1
  | .iface _ d => uptoBulk d + 1
  | .map entries => uptoBulkEntries entries + 1
  | .held _ => 1
def uptoBulkAll {H : Type} : List (DataW H) → Nat
  | [] => 0
  | d :: r => uptoBulk d + uptoBulkAll r
def uptoBulkEntries {H : Type} : List (Lit × DataW H) → Nat
  | [] => 0
  | x :: r => uptoBulkEntry x + uptoBulkEntries r
def uptoBulkEntry {H : Type} : Lit × DataW H → Nat
  | (.string bytes, d) => bytes.length + uptoBulk d + 1
  | (_, d) => uptoBulk d + 1
 end
def uptoSmall : (H : Type) → List (DataW H) → Bool := fun _ ds => decide (uptoBulkAll ds ≤ 1048576)
def OpenSpec.upto (s : _root_.Go.ChangeSpec) : _root_.Go.OpenSpec := { _root_.Go.OpenSpec.ofChange s with cond := some uptoSmall }

/-- 'escritoirekeep.SumsLinear', WHERE WHAT IT READS IS OF BULK AT MOST 1048576: true; the input reads as it did. -/
def sumsLinearUptoRow : OpenClaim := { program := "ytdjddiajnalffaa", sum := "d03790823baee44d51abc986a5461cc0ac3abb372a9711b0884d01dfaf71a7b3", func := "escritoire/escritoirekeep.SumsLinear", spec := "sumsLinear", apart := false, narrowed := true }
def SumsLinearUptoSaid : Prop := sumsLinearUptoRow.holds Try.pinned (OpenSpec.upto sumsLinearSpec)

/-- 'escritoirekeep.SumsBurst', WHERE WHAT IT READS IS OF BULK AT MOST 1048576: true; the input reads as it did. -/
def sumsBurstUptoRow : OpenClaim := { program := "ytdjddiajnalffaa", sum := "d03790823baee44d51abc986a5461cc0ac3abb372a9711b0884d01dfaf71a7b3", func := "escritoire/escritoirekeep.SumsBurst", spec := "sumsBurst", apart := false, narrowed := true }
def SumsBurstUptoSaid : Prop := sumsBurstUptoRow.holds Try.pinned (OpenSpec.upto sumsBurstSpec)

/-- 'escritoirekeep.SumsSwap', WHERE WHAT IT READS IS OF BULK AT MOST 1048576: true; the input reads as it did. -/
def sumsSwapUptoRow : OpenClaim := { program := "ytdjddiajnalffaa", sum := "d03790823baee44d51abc986a5461cc0ac3abb372a9711b0884d01dfaf71a7b3", func := "escritoire/escritoirekeep.SumsSwap", spec := "sumsSwap", apart := false, narrowed := true }
def SumsSwapUptoSaid : Prop := sumsSwapUptoRow.holds Try.pinned (OpenSpec.upto sumsSwapSpec)

/-- 'escritoirekeep.SumsForced', WHERE WHAT IT READS IS OF BULK AT MOST 1048576: true; the input reads as it did. -/
def sumsForcedUptoRow : OpenClaim := { program := "ytdjddiajnalffaa", sum := "d03790823baee44d51abc986a5461cc0ac3abb372a9711b0884d01dfaf71a7b3", func := "escritoire/escritoirekeep.SumsForced", spec := "sumsForced", apart := false, narrowed := true }
def SumsForcedUptoSaid : Prop := sumsForcedUptoRow.holds Try.pinned (OpenSpec.upto sumsForcedSpec)

/-- 'escritoirekeep.LzBack', WHERE WHAT IT READS IS OF BULK AT MOST 1048576: true; the input reads as it did. -/
def lzBackUptoRow : OpenClaim := { program := "ytdjddiajnalffaa", sum := "d03790823baee44d51abc986a5461cc0ac3abb372a9711b0884d01dfaf71a7b3", func := "escritoire/escritoirekeep.LzBack", spec := "lzBack", unfollowed := true, recurses := true, apart := false, narrowed := true }
def LzBackUptoSaid : Prop := lzBackUptoRow.holds Try.pinned (OpenSpec.upto lzBackSpec)

/-- 'escritoirekeep.FindMirror', WHERE WHAT IT READS IS OF BULK AT MOST 1048576: true; the input reads as it did. -/
def findMirrorUptoRow : OpenClaim := { program := "ytdjddiajnalffaa", sum := "d03790823baee44d51abc986a5461cc0ac3abb372a9711b0884d01dfaf71a7b3", func := "escritoire/escritoirekeep.FindMirror", spec := "findMirror", apart := false, narrowed := true }
def FindMirrorUptoSaid : Prop := findMirrorUptoRow.holds Try.pinned (OpenSpec.upto findMirrorSpec)

/-- 'escritoirekeep.FindPeriods', WHERE WHAT IT READS IS OF BULK AT MOST 1048576: true; the input reads as it did. -/
def findPeriodsUptoRow : OpenClaim := { program := "ytdjddiajnalffaa", sum := "d03790823baee44d51abc986a5461cc0ac3abb372a9711b0884d01dfaf71a7b3", func := "escritoire/escritoirekeep.FindPeriods", spec := "findPeriods", apart := false, narrowed := true }
def FindPeriodsUptoSaid : Prop := findPeriodsUptoRow.holds Try.pinned (OpenSpec.upto findPeriodsSpec)

/-- 'escritoirekeep.FindPlain', WHERE WHAT IT READS IS OF BULK AT MOST 1048576: true; the input reads as it did. -/
def findPlainUptoRow : OpenClaim := { program := "ytdjddiajnalffaa", sum := "d03790823baee44d51abc986a5461cc0ac3abb372a9711b0884d01dfaf71a7b3", func := "escritoire/escritoirekeep.FindPlain", spec := "findPlain", apart := false, narrowed := true }
def FindPlainUptoSaid : Prop := findPlainUptoRow.holds Try.pinned (OpenSpec.upto findPlainSpec)

/-- 'escritoirekeep.RealBack', WHERE WHAT IT READS IS OF BULK AT MOST 1048576: true; the input reads as it did. -/
def realBackUptoRow : OpenClaim := { program := "ytdjddiajnalffaa", sum := "d03790823baee44d51abc986a5461cc0ac3abb372a9711b0884d01dfaf71a7b3", func := "escritoire/escritoirekeep.RealBack", spec := "realBack", apart := false, narrowed := true }
def RealBackUptoSaid : Prop := realBackUptoRow.holds Try.pinned (OpenSpec.upto realBackSpec)

/-- 'escritoirekeep.RealRises', WHERE WHAT IT READS IS OF BULK AT MOST 1048576: true; the input reads as it did. -/
def realRisesUptoRow : OpenClaim := { program := "ytdjddiajnalffaa", sum := "d03790823baee44d51abc986a5461cc0ac3abb372a9711b0884d01dfaf71a7b3", func := "escritoire/escritoirekeep.RealRises", spec := "realRises", inPlace := ["math.Float64frombits", "math.Float32frombits"], apart := false, narrowed := true }
def RealRisesUptoSaid : Prop := realRisesUptoRow.holds Try.pinned (OpenSpec.upto realRisesSpec)

/-- 'escritoirekeep.RealTrue', WHERE WHAT IT READS IS OF BULK AT MOST 1048576: true; the input reads as it did. -/
def realTrueUptoRow : OpenClaim := { program := "ytdjddiajnalffaa", sum := "d03790823baee44d51abc986a5461cc0ac3abb372a9711b0884d01dfaf71a7b3", func := "escritoire/escritoirekeep.RealTrue", spec := "realTrue", inPlace := ["math.Float32frombits", "math.Float64frombits", "math.Float64bits"], apart := false, narrowed := true }
def RealTrueUptoSaid : Prop := realTrueUptoRow.holds Try.pinned (OpenSpec.upto realTrueSpec)

/-- 'escritoirekeep.RealNearest', WHERE WHAT IT READS IS OF BULK AT MOST 1048576: true; the input reads as it did. -/
def realNearestUptoRow : OpenClaim := { program := "ytdjddiajnalffaa", sum := "d03790823baee44d51abc986a5461cc0ac3abb372a9711b0884d01dfaf71a7b3", func := "escritoire/escritoirekeep.RealNearest", spec := "realNearest", inPlace := ["math.Float64frombits", "math.Float32frombits", "math.Float32bits"], apart := false, narrowed := true }
def RealNearestUptoSaid : Prop := realNearestUptoRow.holds Try.pinned (OpenSpec.upto realNearestSpec)

end Rows
end Go.Proofs.Ytdjddiajnalffaa
