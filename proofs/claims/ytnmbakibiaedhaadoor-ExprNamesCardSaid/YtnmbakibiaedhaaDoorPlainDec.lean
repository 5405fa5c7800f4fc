/- The digits of a number, one by one from the end, in plain words. -/
import Derived.Test.YtnmbakibiaedhaaDoorPlainNum
namespace Go.Proofs.YtnmbakibiaedhaaDoor
set_option linter.unusedVariables false
set_option linter.unusedSimpArgs false
namespace Num
open Digits
def DecI (n j m : Nat) (t : List UInt8) : Prop := m = n / 10 ^ j ∧ t = ds 10 n j ∧ (j ≤ 1 ∨ 10 ^ (j - 1) ≤ n)
theorem DecI.start (n : Nat) : DecI n 0 n [] := ⟨by simp, rfl, by omega⟩
theorem DecI.step {n j m : Nat} {t : List UInt8} (hn : n < 9223372036854775808) (h : DecI n j m t) (hlen : t.length = j) (hm : 0 < m ∨ t = []) : DecI n (j + 1) (m / 10) (UInt8.ofNat (48 + m % 10) :: t) ∧ j + 1 ≤ 30 := by
  obtain ⟨rfl, rfl, h3⟩ := h
  have hp : 0 < 10 ^ j := Nat.pow_pos (by omega)
  have hle : j = 0 ∨ 10 ^ j ≤ n := by
    rcases hm with h | h
    · exact .inr ((Nat.div_pos_iff.1 h).2)
    · left
      rw [h] at hlen
      exact hlen.symm
  refine ⟨⟨by rw [Nat.div_div_eq_div_mul, Nat.pow_succ], ?_, ?_⟩, ?_⟩
  · rw [ds_succ']
    congr 1
    have : n / 10 ^ j % 10 < 10 := Nat.mod_lt _ (by omega)
    unfold fig dg
    rw [if_pos this]
  · rcases hle with rfl | h
    · omega
    · exact .inr h
  · rcases hle with rfl | h
    · omega
    · by_cases hj : j ≤ 29
      · omega
      · have : 10 ^ 29 ≤ 10 ^ j := Nat.pow_le_pow_right (by omega) (by omega)
        have e : (10 : Nat) ^ 29 = 100000000000000000000000000000 := by decide
        omega
theorem DecI.done {n j : Nat} {t : List UInt8} (hn : n < 9223372036854775808) (h : DecI n j 0 t) (hlen : t.length = j) (ht : t ≠ []) : t = dec n := by
  obtain ⟨h1, rfl, h3⟩ := h
  have hj : j ≠ 0 := by
    rintro rfl
    exact ht rfl
  have hw : Wide 10 n 1 j := by
    refine ⟨by omega, (div_zero_iff 10 n j (by omega)).1 h1.symm, fun k hk hnk => ?_⟩
    rcases h3 with h3 | h3
    · omega
    · have : 10 ^ (j - 1) < 10 ^ k := by omega
      have := (Nat.pow_lt_pow_iff_right (by omega : 1 < 10)).1 this
      omega
  unfold dec
  rw [hw.unique (wdt_wide n (by omega))]
end Num
end Go.Proofs.YtnmbakibiaedhaaDoor
