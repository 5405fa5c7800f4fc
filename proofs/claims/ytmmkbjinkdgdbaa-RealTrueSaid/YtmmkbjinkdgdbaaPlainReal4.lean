/- What Narrow makes of two reals stands as they do. -/
import Derived.Test.YtmmkbjinkdgdbaaPlainReal
import Derived.Test.YtmmkbjinkdgdbaaPlainReal2
import Derived.Test.YtmmkbjinkdgdbaaPlainReal3
namespace Go.Proofs.Ytmmkbjinkdgdbaa
namespace RealN
open RealO (rung negW nanW)
/-- the word of 32 bits that a word of 64 bits is narrowed to, where it is a real -/
def nar (b : Nat) : Nat := b / 2 ^ 63 % 2 * 2 ^ 31 + nm (rung b)
theorem nm_le (r : Nat) (h : r ≤ 2047 * 2 ^ 52) : nm r ≤ 255 * 2 ^ 23 := mag_le _ _ (Nat.mod_lt _ (by decide))
theorem rung_le (b : Nat) (h : nanW b = false) : rung b ≤ 2047 * 2 ^ 52 := by
  unfold RealO.nanW at h; rw [decide_eq_false_iff_not] at h; omega
theorem nar_rung (b : Nat) (h : nanW b = false) : RealS.rung (nar b) = nm (rung b) := by
  have h1 := nm_le _ (rung_le b h)
  have h2 : b / 2 ^ 63 % 2 < 2 := Nat.mod_lt _ (by decide)
  unfold RealS.rung nar
  omega
theorem nar_neg (b : Nat) (h : nanW b = false) : RealS.negW (nar b) = negW b := by
  have h1 := nm_le _ (rung_le b h)
  have h2 : b / 2 ^ 63 % 2 < 2 := Nat.mod_lt _ (by decide)
  unfold RealS.negW RealO.negW nar
  have : (b / 2 ^ 63 % 2 * 2 ^ 31 + nm (rung b)) / 2 ^ 31 % 2 = b / 2 ^ 63 % 2 := by omega
  rw [this]
theorem nar_nan (b : Nat) (h : nanW b = false) : RealS.nanW (nar b) = false := by
  have h1 := nm_le _ (rung_le b h)
  unfold RealS.nanW
  rw [nar_rung b h, decide_eq_false_iff_not]
  omega
theorem val_rung (a b : Nat) (ha : a ≤ 2047 * 2 ^ 52) (h : RealO.val a ≤ RealO.val b) : a ≤ b := by
  rcases Nat.lt_or_ge b a with h1 | h1
  · have := RealO.val_lt b a h1 ha; omega
  · exact h1
theorem val_eq_zero (r : Nat) (h : r ≤ 2047 * 2 ^ 52) (hv : RealO.val r = 0) : r = 0 := by
  have := val_rung r 0 h (by rw [hv]; exact Nat.zero_le _)
  omega
theorem nm_zero : nm 0 = 0 := by decide
theorem vals_zero : RealS.val 0 = 0 := by decide
theorem rises (a b : Nat) (ha : nanW a = false) (hb : nanW b = false) (h : RealO.ext a ≤ RealO.ext b) : RealS.ext (nar a) ≤ RealS.ext (nar b) := by
  have ra := rung_le a ha
  have rb := rung_le b hb
  have mono : ∀ x y, x ≤ y → y ≤ 2047 * 2 ^ 52 → RealS.val (nm x) ≤ RealS.val (nm y) := fun x y h1 h2 => RealS.val_mono _ _ (nm_mono x y h1) (nm_le y h2)
  unfold RealO.ext at h
  unfold RealS.ext
  rw [nar_neg a ha, nar_neg b hb, nar_rung a ha, nar_rung b hb]
  cases hn : negW a <;> cases hm : negW b <;> rw [hn, hm] at h <;> simp only [Bool.false_eq_true, if_false, if_true] at *
  · have := mono _ _ (val_rung _ _ ra (by omega)) rb; omega
  · have e1 := val_eq_zero _ ra (by omega)
    have e2 := val_eq_zero _ rb (by omega)
    rw [e1, e2, nm_zero, vals_zero]; omega
  · omega
  · have := mono _ _ (val_rung _ _ rb (by omega)) ra; omega
/-- as Go asks it: a is no greater than b, so neither is what they are narrowed to -/
theorem leq_rises (a b : Nat) (ha : nanW a = false) (hb : nanW b = false) :
    (Ieee.double.order a b == some .lt || Ieee.double.order a b == some .eq) = true → (Ieee.single.order (nar a) (nar b) == some .lt || Ieee.single.order (nar a) (nar b) == some .eq) = true := by
  rw [RealO.order_ext a b ha hb, RealS.order_ext _ _ (nar_nan a ha) (nar_nan b hb)]
  have key : ∀ x y : Int, (some (compare x y) == some Ordering.lt || some (compare x y) == some Ordering.eq) = decide (x ≤ y) := by
    intro x y
    rcases Int.lt_trichotomy x y with h | h | h
    · rw [Int.compare_eq_lt.2 h, decide_eq_true (by omega)]; rfl
    · subst h
      rw [decide_eq_true (Int.le_refl _)]
      have : compare x x = Ordering.eq := by simp
      rw [this]; rfl
    · rw [Int.compare_eq_gt.2 h, decide_eq_false (by omega)]; rfl
  rw [key, key, decide_eq_true_eq, decide_eq_true_eq]
  exact rises a b ha hb
end RealN
end Go.Proofs.Ytmmkbjinkdgdbaa
