/- A window onto a text, in plain words. -/
import Derived.Test.YtnmbakibiaedhaaDoorPlainXxd
namespace Go.Proofs.YtnmbakibiaedhaaDoor
set_option linter.unusedVariables false
set_option linter.unusedSimpArgs false
namespace Sw
open Digits
/-- the first row that is shown -/
def scr (top rows at_ : Nat) : Nat := if at_ / 16 < top then at_ / 16 else if rows ≤ at_ / 16 - top then at_ / 16 - rows + 1 else top
theorem scr_sees (top rows at_ : Nat) (h : 1 ≤ rows) : scr top rows at_ ≤ at_ / 16 ∧ at_ / 16 < scr top rows at_ + rows ∧ (scr top rows at_ = top ∨ (scr top rows at_ < top ∧ at_ / 16 = scr top rows at_) ∨ (top < scr top rows at_ ∧ at_ / 16 = scr top rows at_ + rows - 1)) := by
  unfold scr
  split
  · omega
  · split <;> omega
theorem scr_again (top rows at_ : Nat) (h : 1 ≤ rows) : scr (scr top rows at_) rows at_ = scr top rows at_ := by
  obtain ⟨h1, h2, _⟩ := scr_sees top rows at_ h
  generalize scr top rows at_ = t at *
  unfold scr
  rw [if_neg (by omega), if_neg (by omega)]
/-- a byte's place in a row: the mark, and its digits -/
def mark (at_ i : Nat) : UInt8 := if i = at_ then 62 else 32
def cell (s : List UInt8) (at_ i : Nat) : List UInt8 := mark at_ i :: (if i < s.length then two (s.getD i 0) else [32, 32])
def cells (s : List UInt8) (at_ from_ : Nat) (n : Nat) : List UInt8 := (List.range n).flatMap fun j => cell s at_ (from_ + j)
theorem cells_zero (s : List UInt8) (at_ from_ : Nat) : cells s at_ from_ 0 = [] := rfl
theorem cells_succ (s : List UInt8) (at_ from_ n : Nat) : cells s at_ from_ (n + 1) = cells s at_ from_ n ++ cell s at_ (from_ + n) := by
  simp [cells, List.range_succ]
theorem cell_length (s : List UInt8) (at_ i : Nat) : (cell s at_ i).length = 3 := by
  unfold cell
  split <;> simp [two]
theorem cells_length (s : List UInt8) (at_ from_ : Nat) : ∀ n, (cells s at_ from_ n).length = 3 * n
  | 0 => rfl
  | n + 1 => by rw [cells_succ, List.length_append, cell_length, cells_length s at_ from_ n]; omega
theorem two_no62 : ∀ n : Fin 256, UInt8.ofNat (fig ((n : Nat) / 16)) ≠ 62 ∧ UInt8.ofNat (fig ((n : Nat) % 16)) ≠ 62 := by decide +kernel
theorem cell_has (s : List UInt8) (at_ i : Nat) : 62 ∈ cell s at_ i ↔ i = at_ := by
  have h2 : 62 ∉ (if i < s.length then two (s.getD i 0) else [32, 32]) := by
    split
    · obtain ⟨h1, h2⟩ := two_no62 ⟨(s.getD i 0).toNat, (s.getD i 0).toNat_lt⟩
      simp only [two, List.mem_cons, List.not_mem_nil, or_false, not_or]
      exact ⟨fun e => h1 e.symm, fun e => h2 e.symm⟩
    · decide
  unfold cell mark
  rw [List.mem_cons]
  by_cases h : i = at_
  · simp [h]
  · rw [if_neg h]
    simp only [h, iff_false, not_or]
    exact ⟨by decide, h2⟩
theorem cells_has (s : List UInt8) (at_ from_ : Nat) : ∀ n, 62 ∈ cells s at_ from_ n ↔ from_ ≤ at_ ∧ at_ < from_ + n
  | 0 => by simp [cells]
  | n + 1 => by
    rw [cells_succ, List.mem_append, cells_has s at_ from_ n, cell_has]
    omega
/-- a row -/
def line (s : List UInt8) (at_ r : Nat) : List UInt8 := if s.length ≤ 16 * r ∧ 0 < r then [126] else ds 16 (16 * r) 8 ++ cells s at_ (16 * r) 16 ++ [32] ++ Xx.shown ((s.drop (min (16 * r) s.length)).take (min (16 * r + 16) s.length - min (16 * r) s.length))
theorem line_length (s : List UInt8) (at_ r : Nat) : (s.length ≤ 16 * r ∧ 0 < r → (line s at_ r).length = 1) ∧ (¬ (s.length ≤ 16 * r ∧ 0 < r) → 57 ≤ (line s at_ r).length ∧ (line s at_ r).length ≤ 73) := by
  constructor
  · intro h
    unfold line
    rw [if_pos h]; rfl
  · intro h
    unfold line
    rw [if_neg h]
    simp only [List.length_append, ds_length, cells_length, List.length_cons, List.length_nil, Xx.shown, List.length_map, List.length_take, List.length_drop]
    omega
/-- what stands between its places 8 and 57 -/
theorem line_part (s : List UInt8) (at_ r : Nat) (h : ¬ (s.length ≤ 16 * r ∧ 0 < r)) : ((line s at_ r).drop 8).take 49 = cells s at_ (16 * r) 16 ++ [32] := by
  unfold line
  rw [if_neg h]
  have h1 : (ds 16 (16 * r) 8).length = 8 := ds_length _ _ _
  have h2 : (cells s at_ (16 * r) 16 ++ [32]).length = 49 := by rw [List.length_append, cells_length]; rfl
  generalize cells s at_ (16 * r) 16 = C at *
  rw [List.append_assoc, List.append_assoc, List.drop_append, h1, Nat.sub_self, List.drop_zero, List.drop_eq_nil_of_le (by omega), List.nil_append, ← List.append_assoc, List.take_append_of_le_length (by omega), List.take_of_length_le (by omega)]
theorem part_has (s : List UInt8) (at_ r : Nat) : 62 ∈ cells s at_ (16 * r) 16 ++ [32] ↔ at_ / 16 = r := by
  rw [List.mem_append, cells_has]
  constructor
  · rintro (h | h)
    · omega
    · exact absurd h (by decide)
  · intro h
    exact .inl (by omega)
end Sw
end Go.Proofs.YtnmbakibiaedhaaDoor
