/- Parse, plain. -/
import Derived.Test.YtenhblpegobbjaaKeysC
namespace Go.Proofs.Ytenhblpegobbjaa
namespace Keys
structure Cm where
  reg : Nat
  n : Nat
  op : Nat
  move : Nat
  arg : List UInt8
deriving DecidableEq
def Cm.zero : Cm := ⟨0, 0, 0, 0, []⟩
def motions : List UInt8 := [104, 108, 106, 107, 48, 36, 103, 71, 119, 98, 110, 78, 91, 93]
def farther : List UInt8 := [39, 102]
def alone : List UInt8 := [120, 112, 80, 105, 97, 82, 117, 118, 85, 46, 126, 18, 58, 47]
def goes (c : UInt8) : Bool := motions.contains c || farther.contains c
def known (c : UInt8) : Bool := goes c || alone.contains c || [109, 113, 64].contains c || [114].contains c
/-- the command, what is left of the keys, what they are (0: a beginning, 1: done, 2: bad) -/
def argued (c : Cm) (key : UInt8) (l : List UInt8) : Cm × List UInt8 × Nat :=
  if (l.take (want key)).any (wrong (want key)) then (Cm.zero, l.drop (want key), 2)
  else if want key ≤ l.length then ({ c with arg := l.take (want key) }, l.drop (want key), 1)
  else (Cm.zero, l.drop (want key), 0)
def moved (c : Cm) (op : UInt8) (l : List UInt8) : Cm × List UInt8 × Nat :=
  match l with
  | [] => (Cm.zero, [], 0)
  | key :: l => if key = op then ({ c with move := key.toNat }, l, 1) else if goes key then argued { c with move := key.toNat } key l else (Cm.zero, l, 2)
def opped (reg n : Nat) (l : List UInt8) : Cm × List UInt8 × Nat :=
  match l with
  | [] => (Cm.zero, [], 0)
  | op :: l => if [100, 121, 99].contains op then moved ⟨reg, if 0 < (cnt l 0).1 then min (max n 1 * (cnt l 0).1) 9999 else n, op.toNat, 0, []⟩ op (cnt l 0).2
    else if known op then argued ⟨reg, n, op.toNat, 0, []⟩ op l else (Cm.zero, l, 2)
/-- a letter, great or small, or a figure but nought -/
def regOk (r : UInt8) : Bool := (decide (97 ≤ (r ||| 32).toNat) && decide ((r ||| 32).toNat ≤ 122)) || (decide (49 ≤ r.toNat) && decide (r.toNat ≤ 57))
def numbered (reg : Nat) (l : List UInt8) : Cm × List UInt8 × Nat := opped reg (cnt l 0).1 (cnt l 0).2
def parse (l : List UInt8) : Cm × List UInt8 × Nat :=
  match l with
  | 34 :: l => match l with
    | [] => (Cm.zero, [], 0)
    | r :: l => if regOk r then numbered r.toNat l else (Cm.zero, l, 2)
  | l => numbered 0 l
example : parse [34, 97, 51, 100, 50, 119, 120] = (⟨97, 6, 100, 119, []⟩, [120], 1) := by decide
end Keys
end Go.Proofs.Ytenhblpegobbjaa
