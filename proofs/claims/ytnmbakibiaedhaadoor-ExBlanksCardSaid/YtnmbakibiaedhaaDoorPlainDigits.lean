/- Plain law of package digits: digits by a base. -/
import Derived.Test.YtnmbakibiaedhaaDoorCommon
namespace Go.Proofs.YtnmbakibiaedhaaDoor
namespace Digits
set_option linter.unusedVariables false
set_option linter.unusedSimpArgs false
/-- digit i of n, from the right -/
def dg (b n i : Nat) : Nat := n / b ^ i % b
theorem dg_lt (b n i : Nat) (hb : 2 ≤ b) : dg b n i < b := Nat.mod_lt _ (by omega)
/-- a digit as a byte -/
def fig (d : Nat) : Nat := if d < 10 then 48 + d else 87 + d
/-- how many digits a number has, so many at least: the least j from m on with n < b^j -/
def Wide (b n m j : Nat) : Prop := m ≤ j ∧ n < b ^ j ∧ ∀ k, m ≤ k → n < b ^ k → j ≤ k
theorem Wide.unique {b n m j k : Nat} (h : Wide b n m j) (g : Wide b n m k) : j = k := by
  have := h.2.2 k g.1 g.2.1; have := g.2.2 j h.1 h.2.1; omega
theorem div_zero_iff (b n j : Nat) (hb : 2 ≤ b) : n / b ^ j = 0 ↔ n < b ^ j := by
  have : 0 < b ^ j := Nat.pow_pos (by omega)
  rw [Nat.div_eq_zero_iff]; omega
/-- where the loop ends -/
theorem Wide.of (b n m j : Nat) (hb : 2 ≤ b) (h1 : m ≤ j) (h2 : n / b ^ j = 0) (h3 : ∀ k, k < j → ¬ (m ≤ k ∧ n / b ^ k = 0)) : Wide b n m j := by
  refine ⟨h1, (div_zero_iff b n j hb).mp h2, fun k hk hn => ?_⟩
  by_cases hkj : k < j
  · exact absurd ⟨hk, (div_zero_iff b n k hb).mpr hn⟩ (h3 k hkj)
  · omega
theorem Wide.le64 {b n m j : Nat} (hb : 2 ≤ b) (hn : n < 2 ^ 64) (hm : m ≤ 64) (h : Wide b n m j) : j ≤ 64 :=
  h.2.2 64 hm (Nat.lt_of_lt_of_le hn (Nat.pow_le_pow_left hb 64))
/-- the digits, the greatest first -/
def ds (b n j : Nat) : List UInt8 := ((List.range j).map fun i => UInt8.ofNat (fig (dg b n i))).reverse
theorem ds_length (b n j : Nat) : (ds b n j).length = j := by simp [ds]
theorem ds_get (b n j i : Nat) (h : i < j) : (ds b n j).getD i 0 = UInt8.ofNat (fig (dg b n (j - 1 - i))) := by
  have h' : i < (ds b n j).length := by rw [ds_length]; exact h
  rw [List.getD_eq_getElem?_getD, List.getElem?_eq_getElem h']
  simp [ds]
theorem fig_lt (d : Nat) (h : d < 16) : fig d < 103 ∧ 48 ≤ fig d := by unfold fig; split <;> omega
theorem fig_mono {c d : Nat} (h : c < d) : fig c < fig d := by unfold fig; split <;> split <;> omega
theorem fig_inj {c d : Nat} (h : fig c = fig d) : c = d := by
  rcases Nat.lt_trichotomy c d with h1 | h1 | h1
  · have := fig_mono h1; omega
  · exact h1
  · have := fig_mono h1; omega
theorem fig_toNat (d : Nat) (h : d < 16) : (UInt8.ofNat (fig d)).toNat = fig d := by
  have := fig_lt d h
  rw [UInt8.toNat_ofNat']; omega
/-- what the digits from the left on are worth -/
theorem worth (b n j k : Nat) (hb : 2 ≤ b) (h : k < j) : n / b ^ (j - (k + 1)) = n / b ^ (j - k) * b + dg b n (j - 1 - k) := by
  unfold dg
  have e : j - k = (j - (k + 1)) + 1 := by omega
  have e2 : j - 1 - k = j - (k + 1) := by omega
  rw [e, e2, Nat.pow_succ, ← Nat.div_div_eq_div_mul]
  have := Nat.div_add_mod (n / b ^ (j - (k + 1))) b
  rw [Nat.mul_comm] at this
  omega
/-- the first digit is not 0 -/
theorem top (b n j : Nat) (hb : 2 ≤ b) (h : Wide b n 1 j) (hn : 0 < n) : dg b n (j - 1) ≠ 0 := by
  obtain ⟨h1, h2, h3⟩ := h
  unfold dg
  have hlt : n / b ^ (j - 1) < b := by
    rw [Nat.div_lt_iff_lt_mul (Nat.pow_pos (by omega)), ← Nat.pow_succ', show (j - 1).succ = j by omega]
    exact h2
  rw [Nat.mod_eq_of_lt hlt]
  intro h0
  by_cases hj : j = 1
  · subst hj; simp at h0; omega
  · have := (div_zero_iff b n (j - 1) hb).mp h0
    have := h3 (j - 1) (by omega) this
    omega
/-- less, digit by digit -/
theorem div_lt_of (b a c j : Nat) (h : a / b ^ j < c / b ^ j) : a < c := by
  by_cases hac : a < c
  · exact hac
  · have := Nat.div_le_div_right (c := b ^ j) (show c ≤ a by omega)
    omega
end Digits
end Go.Proofs.YtnmbakibiaedhaaDoor
