/- Signs as pairs of bytes (UTF-16): plain Lean. -/
import Derived.Test.YtnldobfafaajjaaDoorPlainText
namespace Go.Proofs.YtnldobfafaajjaaDoor
set_option linter.unusedVariables false
set_option linter.unusedSimpArgs false
namespace Txt
/-- a pair's two bytes; order 1: the great one first -/
def unit (o n : Nat) : List UInt8 := if o = 1 then [(n / 256).toUInt8, (n % 256).toUInt8] else [(n % 256).toUInt8, (n / 256).toUInt8]
def val (o : Nat) (x y : UInt8) : Nat := if o = 1 then x.toNat * 256 + y.toNat else x.toNat + y.toNat * 256
theorem toNat_small (n : Nat) (h : n < 256) : n.toUInt8.toNat = n := by
  show n % 256 = n
  exact Nat.mod_eq_of_lt h
theorem unit_two (o n : Nat) (h : n < 65536) : ∃ x y, unit o n = [x, y] ∧ val o x y = n := by
  have h1 := toNat_small (n / 256) (by omega)
  have h2 := toNat_small (n % 256) (by omega)
  unfold unit val
  by_cases ho : o = 1
  · rw [if_pos ho]
    exact ⟨_, _, rfl, by rw [if_pos ho, h1, h2]; omega⟩
  · rw [if_neg ho]
    exact ⟨_, _, rfl, by rw [if_neg ho, h1, h2]; omega⟩
def wide1 (o r : Nat) : List UInt8 := if r < 65536 then unit o r else unit o (55296 + (r - 65536) / 1024) ++ unit o (56320 + (r - 65536) % 1024)
def wide (o : Nat) (L : List Nat) : List UInt8 := L.flatMap (wide1 o)
/-- what is read -/
def nar (o : Nat) : List UInt8 → List Nat
  | x :: y :: z :: u :: l =>
    if val o x y < 55296 ∨ 57343 < val o x y then val o x y :: nar o (z :: u :: l)
    else if val o x y < 56320 ∧ val o z u / 1024 = 55 then (65536 + val o x y % 1024 * 1024 + val o z u % 1024) :: nar o l
    else 65533 :: nar o (z :: u :: l)
  | x :: y :: l => (if val o x y < 55296 ∨ 57343 < val o x y then val o x y else 65533) :: nar o l
  | [_] => [65533]
  | [] => []
theorem nar_plain (o : Nat) (x y : UInt8) (l : List UInt8) (h : val o x y < 55296 ∨ 57343 < val o x y) : nar o (x :: y :: l) = val o x y :: nar o l := by
  match l with
  | [] => simp only [nar]; rw [if_pos h]
  | [z] => simp only [nar]; rw [if_pos h]
  | z :: u :: l => rw [nar, if_pos h]
theorem nar_wide (o : Nat) (L : List Nat) (h : ∀ r ∈ L, r ≤ 1114111 ∧ (r < 55296 ∨ 57343 < r)) : nar o (wide o L) = L := by
  induction L with
  | nil => rfl
  | cons r L ih =>
    have hr := h r List.mem_cons_self
    have ih' := ih fun x hx => h x (List.mem_cons_of_mem _ hx)
    have e : wide o (r :: L) = wide1 o r ++ wide o L := by simp [wide]
    rw [e]
    unfold wide1
    by_cases h6 : r < 65536
    · rw [if_pos h6]
      obtain ⟨x, y, e1, e2⟩ := unit_two o r h6
      rw [e1]
      show nar o (x :: y :: wide o L) = _
      rw [nar_plain o x y _ (by rw [e2]; exact hr.2), e2, ih']
    · rw [if_neg h6]
      obtain ⟨x, y, e1, e2⟩ := unit_two o (55296 + (r - 65536) / 1024) (by omega)
      obtain ⟨z, u, e3, e4⟩ := unit_two o (56320 + (r - 65536) % 1024) (by omega)
      rw [e1, e3]
      show nar o (x :: y :: z :: u :: wide o L) = _
      have ev : 65536 + (55296 + (r - 65536) / 1024) % 1024 * 1024 + (56320 + (r - 65536) % 1024) % 1024 = r := by omega
      rw [nar, e2, e4, if_neg (by omega), if_pos (by omega), ih', ev]
theorem unit_len (o n : Nat) : (unit o n).length = 2 := by unfold unit; split <;> rfl
theorem wide1_len (o r : Nat) : (wide1 o r).length ≤ 4 := by
  unfold wide1
  split
  · rw [unit_len]; omega
  · rw [List.length_append, unit_len, unit_len]; omega
theorem wide_snoc (o : Nat) (L : List Nat) (r : Nat) : wide o (L ++ [r]) = wide o L ++ wide1 o r := by simp [wide]
theorem wide_len (o : Nat) (L : List Nat) : (wide o L).length ≤ 4 * L.length := by
  induction L with
  | nil => exact Nat.le_refl _
  | cons r L ih =>
    have h := wide1_len o r
    have e : wide o (r :: L) = wide1 o r ++ wide o L := by simp [wide]
    rw [e, List.length_append, List.length_cons]
    omega
theorem drop2 (l : List UInt8) (i : Nat) (h : i + 1 < l.length) : l.drop i = l.getD i 0 :: l.getD (i + 1) 0 :: l.drop (i + 2) := by
  have g : ∀ j (hj : j < l.length), l[j] = l.getD j 0 := fun j hj => by rw [List.getD_eq_getElem?_getD, List.getElem?_eq_getElem hj]; rfl
  rw [List.drop_eq_getElem_cons (by omega : i < l.length), List.drop_eq_getElem_cons h, g, g]
theorem drop1 (l : List UInt8) (i : Nat) (h : i + 1 = l.length) : ∃ x, l.drop i = [x] := by
  rw [List.drop_eq_getElem_cons (by omega : i < l.length), List.drop_of_length_le (by omega)]
  exact ⟨_, rfl⟩
theorem nar_a (o : Nat) (l : List UInt8) (i : Nat) (h : i + 1 < l.length) (hn : val o (l.getD i 0) (l.getD (i + 1) 0) < 55296 ∨ 57343 < val o (l.getD i 0) (l.getD (i + 1) 0)) :
    nar o (l.drop i) = val o (l.getD i 0) (l.getD (i + 1) 0) :: nar o (l.drop (i + 2)) := by
  rw [drop2 l i h]
  exact nar_plain o _ _ _ hn
theorem nar_b (o : Nat) (l : List UInt8) (i : Nat) (h : i + 3 < l.length) (hn : ¬ (val o (l.getD i 0) (l.getD (i + 1) 0) < 55296 ∨ 57343 < val o (l.getD i 0) (l.getD (i + 1) 0)))
    (h2 : val o (l.getD i 0) (l.getD (i + 1) 0) < 56320) (h3 : val o (l.getD (i + 2) 0) (l.getD (i + 3) 0) / 1024 = 55) :
    nar o (l.drop i) = (65536 + val o (l.getD i 0) (l.getD (i + 1) 0) % 1024 * 1024 + val o (l.getD (i + 2) 0) (l.getD (i + 3) 0) % 1024) :: nar o (l.drop (i + 4)) := by
  rw [drop2 l i (by omega), drop2 l (i + 2) (by omega)]
  rw [nar, if_neg hn, if_pos ⟨h2, h3⟩]
theorem nar_c (o : Nat) (l : List UInt8) (i : Nat) (h : i + 1 < l.length) (hn : ¬ (val o (l.getD i 0) (l.getD (i + 1) 0) < 55296 ∨ 57343 < val o (l.getD i 0) (l.getD (i + 1) 0)))
    (h2 : ¬ (val o (l.getD i 0) (l.getD (i + 1) 0) < 56320 ∧ i + 3 < l.length ∧ val o (l.getD (i + 2) 0) (l.getD (i + 3) 0) / 1024 = 55)) :
    nar o (l.drop i) = 65533 :: nar o (l.drop (i + 2)) := by
  rw [drop2 l i h]
  by_cases h4 : i + 3 < l.length
  · rw [drop2 l (i + 2) (by omega), nar, if_neg hn, if_neg (fun hh => h2 ⟨hh.1, h4, hh.2⟩)]
  · by_cases h5 : i + 2 < l.length
    · obtain ⟨x, e⟩ := drop1 l (i + 2) (by omega)
      rw [e]
      simp only [nar]
      rw [if_neg hn]
    · rw [List.drop_of_length_le (by omega : l.length ≤ i + 2)]
      simp only [nar]
      rw [if_neg hn]
theorem val_lt (o : Nat) (x y : UInt8) : val o x y < 65536 := by
  have h1 := x.toNat_lt
  have h2 := y.toNat_lt
  unfold val
  split <;> omega
end Txt
end Go.Proofs.YtnldobfafaajjaaDoor
