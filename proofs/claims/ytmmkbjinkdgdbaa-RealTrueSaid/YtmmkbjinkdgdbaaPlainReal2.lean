/- What Narrow makes of a real, plain: it rises; what was widened comes back. No program in sight. -/
import Derived.Test.YtmmkbjinkdgdbaaCommon
namespace Go.Proofs.Ytmmkbjinkdgdbaa
namespace RealN
/-- m / 2^d, to the nearest, of two the even one -/
def rnd (m d : Nat) : Nat := m / 2 ^ d + if 2 ^ (d - 1) < m % 2 ^ d ∨ (m % 2 ^ d = 2 ^ (d - 1) ∧ m / 2 ^ d % 2 = 1) then 1 else 0
/-- what a real with this exponent and this fraction is narrowed to, but for its sign -/
def mag (E F : Nat) : Nat :=
  if E < 800 then 0
  else if E ≤ 896 then (if 60 < 926 - E then 0 else rnd (2 ^ 52 + F) (926 - E))
  else if E < 2047 then min (rnd (2 ^ 52 + F) 29 + (E - 897) * 2 ^ 23) (255 * 2 ^ 23)
  else 255 * 2 ^ 23
theorem rnd_step (m d : Nat) (hd : 1 ≤ d) : rnd m d ≤ rnd (m + 1) d := by
  obtain ⟨k, rfl⟩ : ∃ k, d = k + 1 := ⟨d - 1, by omega⟩
  unfold rnd
  have hp : 0 < 2 ^ k := Nat.pow_pos (by decide)
  have h2 : 2 ^ (k + 1) = 2 * 2 ^ k := by rw [Nat.pow_succ, Nat.mul_comm]
  rw [show k + 1 - 1 = k from rfl, h2]
  generalize 2 ^ k = p at *
  have hm := Nat.div_add_mod m (2 * p)
  have hlt := Nat.mod_lt m (show 2 * p > 0 by omega)
  generalize m / (2 * p) = q at *
  generalize m % (2 * p) = r at *
  by_cases hr : r + 1 < 2 * p
  · have e1 : (m + 1) / (2 * p) = q := by
      rw [← hm, Nat.add_assoc, Nat.mul_add_div (by omega), Nat.div_eq_of_lt hr, Nat.add_zero]
    have e2 : (m + 1) % (2 * p) = r + 1 := by
      rw [← hm, Nat.add_assoc, Nat.mul_add_mod, Nat.mod_eq_of_lt hr]
    rw [e1, e2]
    split <;> split <;> omega
  · have e1 : (m + 1) / (2 * p) = q + 1 := by
      have : m + 1 = 2 * p * (q + 1) := by rw [Nat.mul_add, Nat.mul_one]; omega
      rw [this, Nat.mul_div_cancel_left _ (by omega)]
    have e2 : (m + 1) % (2 * p) = 0 := by
      have : m + 1 = 2 * p * (q + 1) := by rw [Nat.mul_add, Nat.mul_one]; omega
      rw [this, Nat.mul_mod_right]
    rw [e1, e2]
    split <;> split <;> omega
theorem rnd_double (m d : Nat) (hd : 1 ≤ d) : rnd (2 * m) (d + 1) = rnd m d := by
  obtain ⟨k, rfl⟩ : ∃ k, d = k + 1 := ⟨d - 1, by omega⟩
  unfold rnd
  have h2 : 2 ^ (k + 1 + 1) = 2 * 2 ^ (k + 1) := by rw [Nat.pow_succ 2 (k + 1), Nat.mul_comm]
  have h3 : 2 ^ (k + 1) = 2 * 2 ^ k := by rw [Nat.pow_succ, Nat.mul_comm]
  rw [show k + 1 + 1 - 1 = k + 1 from rfl, show k + 1 - 1 = k from rfl, h2, Nat.mul_div_mul_left _ _ (by decide), Nat.mul_mod_mul_left, h3]
  have hp : 0 < 2 ^ k := Nat.pow_pos (by decide)
  generalize 2 ^ k = p at *
  generalize m / (2 * p) = q at *
  generalize m % (2 * p) = r at *
  congr 1
  by_cases h : p < r ∨ (r = p ∧ q % 2 = 1)
  · rw [if_pos h, if_pos (by omega)]
  · rw [if_neg h, if_neg (by omega)]
theorem rnd_whole (n d : Nat) (hd : 1 ≤ d) : rnd (n * 2 ^ d) d = n := by
  unfold rnd
  have hp : 0 < 2 ^ d := Nat.pow_pos (by decide)
  have hp2 : 0 < 2 ^ (d - 1) := Nat.pow_pos (by decide)
  rw [Nat.mul_div_cancel _ hp, Nat.mul_mod_left, if_neg (by omega)]
  rfl
theorem mag_same (E F : Nat) : mag E F ≤ mag E (F + 1) := by
  unfold mag
  split
  · exact Nat.le_refl _
  · split
    · split
      · exact Nat.le_refl _
      · exact rnd_step _ _ (by omega)
    · split
      · have := rnd_step (2 ^ 52 + F) 29 (by decide)
        have e : 2 ^ 52 + F + 1 = 2 ^ 52 + (F + 1) := by omega
        rw [e] at this
        omega
      · exact Nat.le_refl _
theorem rnd_a : rnd (2 ^ 52 + (2 ^ 52 - 1)) 29 = 2 ^ 24 := by decide
theorem rnd_b : rnd (2 ^ 52 + 0) 29 = 2 ^ 23 := by decide
theorem mag_next (E : Nat) : mag E (2 ^ 52 - 1) ≤ mag (E + 1) 0 := by
  unfold mag
  by_cases h0 : E < 800
  · rw [if_pos h0]; exact Nat.zero_le _
  · rw [if_neg h0, if_neg (by omega : ¬ E + 1 < 800)]
    by_cases h1 : E ≤ 896
    · rw [if_pos h1]
      by_cases h2 : 60 < 926 - E
      · rw [if_pos h2]; exact Nat.zero_le _
      · rw [if_neg h2]
        have hs := rnd_step (2 ^ 52 + (2 ^ 52 - 1)) (926 - E) (by omega)
        rw [show 2 ^ 52 + (2 ^ 52 - 1) + 1 = 2 * (2 ^ 52 + 0) from by decide] at hs
        obtain ⟨d, hd⟩ : ∃ d, 926 - E = d + 1 := ⟨925 - E, by omega⟩
        rw [hd] at hs ⊢
        rw [rnd_double _ d (by omega)] at hs
        by_cases h3 : E + 1 ≤ 896
        · rw [if_pos h3, if_neg (by omega), show 926 - (E + 1) = d by omega]
          exact hs
        · obtain rfl : d = 29 := by omega
          rw [if_neg h3, if_pos (by omega)]
          rw [rnd_b] at hs ⊢
          omega
    · rw [if_neg h1, if_neg (by omega : ¬ E + 1 ≤ 896)]
      by_cases h2 : E < 2047
      · rw [if_pos h2, rnd_a]
        by_cases h3 : E + 1 < 2047
        · rw [if_pos h3, rnd_b]; omega
        · rw [if_neg h3]; omega
      · rw [if_neg h2, if_neg (by omega : ¬ E + 1 < 2047)]
        exact Nat.le_refl _
/-- what a rung is narrowed to -/
def nm (r : Nat) : Nat := mag (r / 2 ^ 52) (r % 2 ^ 52)
theorem nm_step (r : Nat) : nm r ≤ nm (r + 1) := by
  unfold nm
  have hm := Nat.div_add_mod r (2 ^ 52)
  have hlt := Nat.mod_lt r (show 2 ^ 52 > 0 by decide)
  by_cases hr : r % 2 ^ 52 + 1 < 2 ^ 52
  · have e1 : (r + 1) / 2 ^ 52 = r / 2 ^ 52 := by omega
    have e2 : (r + 1) % 2 ^ 52 = r % 2 ^ 52 + 1 := by omega
    rw [e1, e2]
    exact mag_same _ _
  · have e1 : (r + 1) / 2 ^ 52 = r / 2 ^ 52 + 1 := by omega
    have e2 : (r + 1) % 2 ^ 52 = 0 := by omega
    have e3 : r % 2 ^ 52 = 2 ^ 52 - 1 := by omega
    rw [e1, e2, e3]
    exact mag_next _
theorem nm_mono (a : Nat) : ∀ b, a ≤ b → nm a ≤ nm b
  | 0, h => by obtain rfl : a = 0 := by omega
               exact Nat.le_refl _
  | b + 1, h => by
    rcases Nat.lt_or_ge b a with h1 | h1
    · obtain rfl : a = b + 1 := by omega
      exact Nat.le_refl _
    · exact Nat.le_trans (nm_mono a b h1) (nm_step b)
theorem rnd_le (m d : Nat) : rnd m d ≤ m / 2 ^ d + 1 := by
  unfold rnd; split <;> omega
theorem mag_le (E F : Nat) (hF : F < 2 ^ 52) : mag E F ≤ 255 * 2 ^ 23 := by
  unfold mag
  split
  · omega
  · split
    · split
      · omega
      · rename_i h1 h2 h3
        have := rnd_le (2 ^ 52 + F) (926 - E)
        have h4 : (2 ^ 52 + F) / 2 ^ (926 - E) ≤ (2 ^ 52 + F) / 2 ^ 29 := Nat.div_le_div_left (Nat.pow_le_pow_right (by decide) (by omega)) (by decide)
        omega
    · split <;> omega
/-- what was widened comes back -/
theorem mag_norm (e f : Nat) (h1 : 1 ≤ e) (h2 : e < 255) (hf : f < 2 ^ 23) : mag (e + 896) (f * 2 ^ 29) = e * 2 ^ 23 + f := by
  unfold mag
  rw [if_neg (by omega), if_neg (by omega), if_pos (by omega)]
  rw [show 2 ^ 52 + f * 2 ^ 29 = (2 ^ 23 + f) * 2 ^ 29 by omega, rnd_whole _ 29 (by decide)]
  omega
theorem mag_sub (s H F : Nat) (h1 : 1 ≤ s) (h2 : s ≤ 23) (h : F * 2 ^ s = 2 ^ 23 + H) : mag (897 - s) (H * 2 ^ 29) = F := by
  unfold mag
  rw [if_neg (by omega), if_pos (by omega), if_neg (by omega)]
  have e : 2 ^ 52 + H * 2 ^ 29 = F * 2 ^ (926 - (897 - s)) := by
    rw [show 926 - (897 - s) = s + 29 by omega, Nat.pow_add, ← Nat.mul_assoc, h]
    omega
  rw [e, rnd_whole _ _ (by omega)]
end RealN
end Go.Proofs.Ytmmkbjinkdgdbaa
