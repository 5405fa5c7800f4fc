/- A number's text, in plain words: what it is read as, and how it is written. -/
import Derived.Test.YtnmbakibiaedhaaDoorDigitsA
namespace Go.Proofs.YtnmbakibiaedhaaDoor
set_option linter.unusedVariables false
set_option linter.unusedSimpArgs false
namespace Num
open Digits
def val (b : Nat) (l : List UInt8) : Nat := l.foldl (fun acc c => acc * b + (Keys.dig c.toNat).toNat) 0
theorem val_snoc (b : Nat) (l : List UInt8) (c : UInt8) : val b (l ++ [c]) = val b l * b + (Keys.dig c.toNat).toNat := by simp [val]
theorem val_take (b : Nat) (l : List UInt8) (i : Nat) (h : i < l.length) : val b (l.take (i + 1)) = val b (l.take i) * b + (Keys.dig (l.getD i 0).toNat).toNat := by
  rw [List.take_succ_eq_append_getElem h, val_snoc, List.getD_eq_getElem?_getD, List.getElem?_eq_getElem h]
  rfl
theorem val_mono (b : Nat) (l : List UInt8) (hb : 1 ≤ b) : ∀ k i, i + k = l.length → val b (l.take i) ≤ val b l
  | 0, i, h => by rw [List.take_of_length_le (by omega)]; exact Nat.le_refl _
  | k + 1, i, h => by
    have h1 := val_mono b l hb k (i + 1) (by omega)
    rw [val_take b l i (by omega)] at h1
    have : val b (l.take i) ≤ val b (l.take i) * b := Nat.le_mul_of_pos_right _ hb
    omega
theorem val_from (b : Nat) (l : List UInt8) : ∀ a, l.foldl (fun v c => v * b + (Keys.dig c.toNat).toNat) a = a * b ^ l.length + l.foldl (fun v c => v * b + (Keys.dig c.toNat).toNat) 0 := by
  induction l with
  | nil => intro a; simp
  | cons c l ih =>
    intro a
    rw [List.foldl_cons, List.foldl_cons, ih, ih (0 * b + _), List.length_cons, Nat.pow_succ, Nat.zero_mul, Nat.zero_add, Nat.add_mul, Nat.add_assoc]
    congr 1
    rw [Nat.mul_assoc, Nat.mul_comm b]
theorem val_cons (b : Nat) (c : UInt8) (l : List UInt8) : val b (c :: l) = (Keys.dig c.toNat).toNat * b ^ l.length + val b l := by
  have h := val_from b l (0 * b + (Keys.dig c.toNat).toNat)
  rw [Nat.zero_mul, Nat.zero_add] at h
  unfold val
  rw [List.foldl_cons, Nat.zero_mul, Nat.zero_add, h]
theorem ds_succ' (b n j : Nat) : ds b n (j + 1) = UInt8.ofNat (fig (dg b n j)) :: ds b n j := by simp [ds, List.range_succ]
theorem dig_figN : ∀ d : Fin 16, Keys.dig (UInt8.ofNat (fig d)).toNat = ((d : Nat) : Int) := by decide
theorem val_ds (b n : Nat) (hb : 2 ≤ b) (hb2 : b ≤ 16) : ∀ j, val b (ds b n j) = n % b ^ j := by
  intro j
  induction j with
  | zero => simp [ds, val, Nat.mod_one]
  | succ j ih =>
    have hd := dig_figN ⟨dg b n j, Nat.lt_of_lt_of_le (dg_lt b n j hb) hb2⟩
    simp only at hd
    rw [ds_succ', val_cons, ih, ds_length, Nat.pow_succ, Nat.mod_mul, hd]
    simp only [Int.toNat_natCast, dg]
    rw [Nat.mul_comm (n / b ^ j % b), Nat.add_comm]
/-- what digits of a base are read as: the number, or which error -/
def okDig (b : Nat) (c : UInt8) : Bool := decide (0 ≤ Keys.dig c.toNat) && decide (Keys.dig c.toNat < (b : Int))
def parseOf (b : Nat) (t : List UInt8) : Nat ⊕ Nat :=
  if t = [] then .inr 3 else if t.all (okDig b) = true then (if val b t < 18446744073709551616 then .inl (val b t) else .inr 2) else .inr 3
def baseOf : List UInt8 → Nat
  | 48 :: 120 :: _ => 16
  | 48 :: 98 :: _ => 2
  | _ => 10
def restOf : List UInt8 → List UInt8
  | 48 :: 120 :: r => r
  | 48 :: 98 :: r => r
  | s => s
def numOf (s : List UInt8) : Nat ⊕ Nat := match parseOf (baseOf s) (restOf s) with
  | .inr e => .inr e
  | .inl n => if n < 9223372036854775808 then .inl n else .inr 2
theorem numOf_lt {s : List UInt8} {n : Nat} (h : numOf s = .inl n) : n < 9223372036854775808 := by
  unfold numOf at h
  split at h
  · cases h
  · split at h
    · cases h; assumption
    · cases h
/-- how many digits a number has -/
def wdt (n : Nat) : Nat := ((List.range 25).find? fun j => decide (1 ≤ j) && decide (n < 10 ^ j)).getD 0
theorem wdt_wide (n : Nat) (hn : n < 18446744073709551616) : Wide 10 n 1 (wdt n) := by
  unfold wdt
  cases h : (List.range 25).find? (fun j => decide (1 ≤ j) && decide (n < 10 ^ j)) with
  | none =>
    rw [List.find?_eq_none] at h
    have := h 20 (by simp)
    simp at this
    omega
  | some j =>
    rw [List.find?_eq_some_iff_getElem] at h
    obtain ⟨h1, i, hi, he, h2⟩ := h
    simp only [List.length_range] at hi
    rw [List.getElem_range] at he
    subst he
    simp only [Bool.and_eq_true, decide_eq_true_eq] at h1
    refine ⟨h1.1, h1.2, fun k hk hn => Nat.le_of_not_lt fun hlt => ?_⟩
    have := h2 k hlt
    rw [List.getElem_range] at this
    simp [hk, hn] at this
def dec (n : Nat) : List UInt8 := ds 10 n (wdt n)
theorem dec_digits (n : Nat) : ∀ c ∈ dec n, okDig 10 c = true ∧ 48 ≤ c.toNat ∧ c.toNat ≤ 57 := by
  intro c hc
  unfold dec ds at hc
  rw [List.mem_reverse, List.mem_map] at hc
  obtain ⟨i, _, rfl⟩ := hc
  have hd := dg_lt 10 n i (by decide)
  exact (by decide : ∀ d : Fin 10, okDig 10 (UInt8.ofNat (fig d)) = true ∧ 48 ≤ (UInt8.ofNat (fig d)).toNat ∧ (UInt8.ofNat (fig d)).toNat ≤ 57) ⟨_, hd⟩
theorem dec_val (n : Nat) (hn : n < 18446744073709551616) : val 10 (dec n) = n := by
  unfold dec
  rw [val_ds 10 n (by decide) (by decide), Nat.mod_eq_of_lt (wdt_wide n hn).2.1]
theorem dec_ne (n : Nat) (hn : n < 18446744073709551616) : dec n ≠ [] := by
  intro e
  have := congrArg List.length e
  rw [dec, ds_length, List.length_nil] at this
  have := (wdt_wide n hn).1
  omega
theorem dec_plain (n : Nat) (hn : n < 18446744073709551616) : baseOf (dec n) = 10 ∧ restOf (dec n) = dec n := by
  have hd := dec_digits n
  have key : ∀ (l : List UInt8), (∀ c ∈ l, 48 ≤ c.toNat ∧ c.toNat ≤ 57) → baseOf l = 10 ∧ restOf l = l := by
    intro l hl
    unfold baseOf restOf
    split
    · have := (hl 120 (by simp)).2; exact absurd this (by decide)
    · have := (hl 98 (by simp)).2; exact absurd this (by decide)
    · exact ⟨rfl, rfl⟩
  exact key _ fun c hc => (hd c hc).2
theorem numOf_dec (n : Nat) (hn : n < 9223372036854775808) : numOf (dec n) = .inl n := by
  obtain ⟨h1, h2⟩ := dec_plain n (by omega)
  unfold numOf parseOf
  rw [h1, h2, if_neg (dec_ne n (by omega)), if_pos (List.all_eq_true.2 fun c hc => (dec_digits n c hc).1), dec_val n (by omega), if_pos (by omega)]
  simp [hn]
end Num
end Go.Proofs.YtnmbakibiaedhaaDoor
