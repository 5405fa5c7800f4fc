/- What a line's words are as a command, in plain words. -/
import Derived.Test.YtnmbakibiaedhaaDoorPlainEx
import Derived.Test.YtnmbakibiaedhaaDoorPlainNum
namespace Go.Proofs.YtnmbakibiaedhaaDoor
set_option linter.unusedVariables false
set_option linter.unusedSimpArgs false
namespace Ex
open Num
/-- digits.Number: the number, or none -/
def numI (s : List UInt8) : Option Int :=
  if s.getD 0 0 = 45 then (match parseOf (baseOf s.tail) (restOf s.tail) with
    | .inl n => if n ≤ 9223372036854775808 then some (-(n : Int)) else none
    | .inr _ => none)
  else (match parseOf (baseOf s) (restOf s) with
    | .inl n => if n < 9223372036854775808 then some (n : Int) else none
    | .inr _ => none)
def isDig (c : UInt8) : Bool := decide (0 ≤ Keys.dig c.toNat)
def byteOf (a b : UInt8) : UInt8 := UInt8.ofNat (16 * (Keys.dig a.toNat).toNat + (Keys.dig b.toNat).toNat)
def unhex : List UInt8 → Option (List UInt8)
  | [] => some []
  | [_] => none
  | a :: b :: r => if isDig a = true ∧ isDig b = true then (unhex r).map fun t => byteOf a b :: t else none
def hexB (s : List UInt8) : Option (List UInt8) := if s = [45] then some [] else unhex s
/-- parted at points -/
def joinDot : List (List UInt8) → List UInt8
  | [] => []
  | [x] => x
  | x :: y :: r => x ++ 46 :: joinDot (y :: r)
theorem joinDot_cons (x : List UInt8) (r : List (List UInt8)) (h : r ≠ []) : joinDot (x :: r) = x ++ 46 :: joinDot r := by
  cases r with
  | nil => exact absurd rfl h
  | cons y r => rfl
def partDot : List UInt8 → List (List UInt8)
  | [] => [[]]
  | c :: l => if c = 46 then [] :: partDot l else (match partDot l with
    | [] => [[c]]
    | x :: r => (c :: x) :: r)
theorem partDot_ne : ∀ l, partDot l ≠ []
  | [] => by simp [partDot]
  | c :: l => by
    rw [partDot]
    split
    · simp
    · split <;> simp
theorem partDot_join : ∀ l, joinDot (partDot l) = l
  | [] => rfl
  | c :: l => by
    have ih := partDot_join l
    have hne := partDot_ne l
    rw [partDot]
    by_cases hc : c = 46
    · rw [if_pos hc, joinDot_cons _ _ hne, ih, hc]; rfl
    · rw [if_neg hc]
      cases hp : partDot l with
      | nil => exact absurd hp hne
      | cons x r =>
        rw [hp] at ih
        cases r with
        | nil => simp only [joinDot] at ih ⊢; rw [ih]
        | cons y r =>
          rw [joinDot_cons _ _ (by simp)] at ih ⊢
          rw [← ih]; rfl
theorem partDot_no : ∀ l, ∀ x ∈ partDot l, 46 ∉ x
  | [], x, hx => by
    simp only [partDot, List.mem_singleton] at hx
    rw [hx]; simp
  | c :: l, x, hx => by
    have ih := partDot_no l
    rw [partDot] at hx
    by_cases hc : c = 46
    · rw [if_pos hc] at hx
      rcases List.mem_cons.1 hx with hx | hx
      · rw [hx]; simp
      · exact ih x hx
    · rw [if_neg hc] at hx
      cases hp : partDot l with
      | nil => rw [hp] at hx; simp only [List.mem_singleton] at hx; rw [hx]; simp; exact fun e => hc e.symm
      | cons y r =>
        rw [hp] at hx ih
        rcases List.mem_cons.1 hx with hx | hx
        · rw [hx]
          have := ih y (by simp)
          intro hm
          rcases List.mem_cons.1 hm with e | e
          · exact hc e.symm
          · exact this e
        · exact ih x (by simp [hx])
theorem partDot_len : ∀ l, (∀ x ∈ partDot l, x.length ≤ l.length) ∧ (partDot l).length ≤ l.length + 1
  | [] => by simp [partDot]
  | c :: l => by
    have ih := partDot_len l
    rw [partDot]
    by_cases hc : c = 46
    · rw [if_pos hc]
      refine ⟨?_, by simp; omega⟩
      intro x hx
      rcases List.mem_cons.1 hx with hx | hx
      · rw [hx]; simp
      · have := ih.1 x hx; simp; omega
    · rw [if_neg hc]
      cases hp : partDot l with
      | nil => simp
      | cons y r =>
        rw [hp] at ih
        refine ⟨?_, by have := ih.2; simp at this ⊢; omega⟩
        intro x hx
        rcases List.mem_cons.1 hx with hx | hx
        · rw [hx]; have := ih.1 y (by simp); simp; omega
        · have := ih.1 x (by simp [hx]); simp; omega
def pathTo : List (List UInt8) → Option (List Int)
  | [] => some []
  | x :: r => match parseOf 10 x with
    | .inl n => (pathTo r).map fun l => ((n % 4611686018427387904 : Nat) : Int) :: l
    | .inr _ => none
def pathI (s : List UInt8) : Option (List Int) := if s = [45] then some [] else pathTo (partDot s)
structure Cmd where
  word : List UInt8
  n : List Int
  b : List (List UInt8)
  p : List Int
deriving DecidableEq
def formOf (w : List UInt8) : Option (List UInt8) :=
  if w = [100] ∨ w = [121] then some [110, 110]
  else if w = [102, 105, 108, 108] then some [110, 110, 98]
  else if w = [115] then some [98, 98]
  else if w = [115, 101, 116] then some [112, 110]
  else if w = [112, 117, 116] then some [112, 98]
  else if w = [100, 117, 112] ∨ w = [100, 114, 111, 112] then some [112]
  else if w = [102, 105, 120] then some []
  else if w = [117, 110, 100, 111] then some [110]
  else if w = [102, 111, 114, 99, 101] then some [110, 110]
  else none
def stepC (f : UInt8) (w : List UInt8) (c : Cmd) : Option Cmd :=
  if f = 110 then (numI w).map fun z => { c with n := c.n ++ [z] }
  else if f = 98 then (hexB w).map fun t => { c with b := c.b ++ [t] }
  else (pathI w).map fun l => { c with p := l }
def runC : List UInt8 → List (List UInt8) → Cmd → Option Cmd
  | [], _, c => some c
  | _ :: _, [], _ => none
  | f :: fs, w :: ws, c => (stepC f w c).bind (runC fs ws)
def cmdRest (W : List (List UInt8)) : Option Cmd := match W with
  | [] => none
  | w :: ws => match formOf w with
    | none => none
    | some f => if ws.length = f.length then runC f ws ⟨w, [], [], []⟩ else none
def cmdOf (W : List (List UInt8)) : Option Cmd := match W with
  | [w] => match numI w with
    | some z => some ⟨[103, 111], [z], [], []⟩
    | none => cmdRest [w]
  | _ => cmdRest W
theorem formOf_short {w f : List UInt8} (h : formOf w = some f) : f.length ≤ 3 := by
  unfold formOf at h
  repeat' split at h
  all_goals first | (cases h; decide) | cases h
theorem lined_cmd : cmdOf (words [32, 102, 105, 108, 108, 32, 49, 32, 32, 48, 120, 52, 32, 102, 102]) = some ⟨[102, 105, 108, 108], [1, 4], [[255]], []⟩ := by decide +kernel
end Ex
end Go.Proofs.YtnmbakibiaedhaaDoor
