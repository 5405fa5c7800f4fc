/- What Parse answers; which way it takes. -/
import Derived.Test.YtenhblpegobbjaaChecked
import Derived.Test.YtenhblpegobbjaaOwn
import Derived.Test.YtenhblpegobbjaaKeysG
import Derived.Test.YtenhblpegobbjaaPlainKeys2
import Derived.Deep.DeepCutAuto
import Derived.Deep.CutBlock
namespace Go.Proofs.Ytenhblpegobbjaa
open Go.RowKit
set_option linter.unusedVariables false
set_option linter.unusedSimpArgs false
/-- what Parse answers -/
def ParseOut (w : World) (s : ByteArray) (e : Ending) (w' : World) : Prop := ∃ arg : ByteArray, arg.data.toList = (Keys.parse s.data.toList).1.arg ∧ e = .returned (.tuple #[.agg (cmd5 (Keys.parse s.data.toList).1.reg (Keys.parse s.data.toList).1.n (Keys.parse s.data.toList).1.op (Keys.parse s.data.toList).1.move arg).toArray, .int .i64 ((s.size - (Keys.parse s.data.toList).2.1.length : Nat) : Int), .int .i64 ((Keys.parse s.data.toList).2.2 : Nat)]) ∧ Below w.heap.size w w'
theorem ParseOut.mk {w : World} {s : ByteArray} {e : Ending} {w' : World} {NU : Nat} (c : Keys.Cm) (l : List UInt8) (what : Nat) (arg : ByteArray) (hp : Keys.parse s.data.toList = (c, l, what)) (harg : arg.data.toList = c.arg)
    (he : e = .returned (.tuple #[.agg (cmd5 c.reg c.n c.op c.move arg).toArray, .int .i64 (NU : Int), .int .i64 (what : Int)])) (hNU : NU = s.size - l.length) (hb : Below w.heap.size w w') : ParseOut w s e w' :=
  ⟨arg, by rw [hp]; exact harg, by rw [he, hp, hNU], hb⟩
namespace Keys
/-- which way Parse takes: 1: a register, and no more; 2: no key, or none that is known; 3: an operator, without an argument; 4: all other ways -/
def clsMoved (op : UInt8) (l : List UInt8) : Nat := match l with | [] => 3 | key :: _ => if key = op then 3 else if goes key then 4 else 3
def clsOpped (l : List UInt8) : Nat := match l with | [] => 2 | op :: l => if [100, 121, 99].contains op then clsMoved op (cnt l 0).2 else if known op then 4 else 2
def clsNum (l : List UInt8) : Nat := clsOpped (cnt l 0).2
def clsQuoted (l : List UInt8) : Nat := match l with | [] => 1 | r :: l => if regOk r then clsNum l else 1
def cls (l : List UInt8) : Nat := if l.head? = some 34 then clsQuoted (l.drop 1) else clsNum l
theorem cls_quoted (l : List UInt8) : cls (34 :: l) = clsQuoted l := rfl
theorem cls_plain (l : List UInt8) (h : l.head? ≠ some 34) : cls l = clsNum l := if_neg h
theorem clsMoved_two (op : UInt8) (l : List UInt8) : clsMoved op l = 3 ∨ clsMoved op l = 4 := by
  unfold clsMoved
  split
  · exact .inl rfl
  · split
    · exact .inl rfl
    · split
      · exact .inr rfl
      · exact .inl rfl
theorem clsOpped_three (l : List UInt8) : clsOpped l = 2 ∨ clsOpped l = 3 ∨ clsOpped l = 4 := by
  unfold clsOpped
  split
  · exact .inl rfl
  · split
    · exact .inr (clsMoved_two _ _)
    · split
      · exact .inr (.inr rfl)
      · exact .inl rfl
theorem clsNum_three (l : List UInt8) : clsNum l = 2 ∨ clsNum l = 3 ∨ clsNum l = 4 := clsOpped_three _
theorem cls_four (l : List UInt8) : cls l = 1 ∨ cls l = 2 ∨ cls l = 3 ∨ cls l = 4 := by
  unfold cls
  split
  · unfold clsQuoted
    split
    · exact .inl rfl
    · split
      · exact .inr (clsNum_three _)
      · exact .inl rfl
  · exact .inr (clsNum_three _)
end Keys
end Go.Proofs.Ytenhblpegobbjaa
