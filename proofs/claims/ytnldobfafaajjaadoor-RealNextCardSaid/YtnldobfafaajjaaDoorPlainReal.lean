/- How two words of 64 bits stand to each other as reals: the plain law. No program in sight. -/
import Derived.Test.YtnldobfafaajjaaDoorCommon
import Ieee.Arith
namespace Go.Proofs.YtnldobfafaajjaaDoor
set_option linter.unusedVariables false
set_option linter.unusedSimpArgs false
namespace RealO
open Ieee
/-- more than any real has bits, in units of the least one -/
def huge : Nat := 2100
def top : Nat := 2 ^ huge
theorem top_ge (k : Nat) (h : k ≤ huge) : 2 ^ k ≤ top := Nat.pow_le_pow_right (by decide) h
theorem top_pos : 0 < top := Nat.pow_pos (by decide)
/-- what a rung is, in units of the least real -/
def val (r : Nat) : Nat := if r < 2 ^ 52 then r else if r < 2047 * 2 ^ 52 then (2 ^ 52 + r % 2 ^ 52) * 2 ^ (r / 2 ^ 52 - 1) else top
theorem val_bound (r : Nat) (h : r < 2047 * 2 ^ 52) : val r < top := by
  unfold val
  by_cases h1 : r < 2 ^ 52
  · rw [if_pos h1]
    exact Nat.lt_of_lt_of_le h1 (top_ge 52 (by decide))
  · rw [if_neg h1, if_pos h]
    have h1' : r % 2 ^ 52 < 2 ^ 52 := Nat.mod_lt _ (by decide)
    have h2 : r / 2 ^ 52 - 1 ≤ 2046 := by
      have : r / 2 ^ 52 < 2047 := Nat.div_lt_of_lt_mul (by omega)
      omega
    have h4 : 2 ^ 52 + r % 2 ^ 52 < 2 ^ 53 := by
      have : (2 : Nat) ^ 53 = 2 ^ 52 + 2 ^ 52 := by decide
      omega
    generalize r / 2 ^ 52 - 1 = e at *
    calc (2 ^ 52 + r % 2 ^ 52) * 2 ^ e < 2 ^ 53 * 2 ^ e := Nat.mul_lt_mul_of_pos_right h4 (Nat.pow_pos (by decide))
      _ = 2 ^ (53 + e) := by rw [← Nat.pow_add]
      _ ≤ top := top_ge _ (by unfold huge; omega)
theorem val_step (r : Nat) (h : r < 2047 * 2 ^ 52) : val r < val (r + 1) := by
  by_cases hinf : r + 1 = 2047 * 2 ^ 52
  · have : val (r + 1) = top := by
      unfold val
      rw [if_neg (by rw [hinf]; decide), if_neg (by omega)]
    rw [this]; exact val_bound r h
  · have h' : r + 1 < 2047 * 2 ^ 52 := by omega
    unfold val
    by_cases h1 : r + 1 < 2 ^ 52
    · rw [if_pos (by omega), if_pos h1]; omega
    · rw [if_neg h1, if_pos h']
      by_cases h2 : r < 2 ^ 52
      · have hr : r + 1 = 2 ^ 52 := by omega
        rw [if_pos h2, hr]
        simp
        omega
      · rw [if_neg h2, if_pos h]
        have hm : r % 2 ^ 52 < 2 ^ 52 := Nat.mod_lt _ (by decide)
        have hd := Nat.div_add_mod r (2 ^ 52)
        have h1d : 1 ≤ r / 2 ^ 52 := Nat.div_pos (by omega) (by decide)
        by_cases h3 : r % 2 ^ 52 + 1 < 2 ^ 52
        · have e1 : (r + 1) / 2 ^ 52 = r / 2 ^ 52 := by omega
          have e2 : (r + 1) % 2 ^ 52 = r % 2 ^ 52 + 1 := by omega
          rw [e1, e2]
          exact Nat.mul_lt_mul_of_pos_right (by omega) (Nat.pow_pos (by decide))
        · have e1 : (r + 1) / 2 ^ 52 = r / 2 ^ 52 + 1 := by omega
          have e2 : (r + 1) % 2 ^ 52 = 0 := by omega
          have e3 : r % 2 ^ 52 = 2 ^ 52 - 1 := by omega
          obtain ⟨d, hd2⟩ : ∃ d, r / 2 ^ 52 = d + 1 := ⟨r / 2 ^ 52 - 1, by omega⟩
          rw [e1, e2, e3, hd2]
          simp only [Nat.add_sub_cancel, Nat.add_zero]
          have hp : (2 : Nat) ^ (d + 1) = 2 * 2 ^ d := by rw [Nat.pow_succ, Nat.mul_comm]
          rw [hp, ← Nat.mul_assoc]
          exact Nat.mul_lt_mul_of_pos_right (by decide) (Nat.pow_pos (by decide))
theorem val_lt (a : Nat) : ∀ b, a < b → b ≤ 2047 * 2 ^ 52 → val a < val b
  | 0, h, _ => by omega
  | b + 1, h, hb => by
    have hs := val_step b (by omega)
    rcases Nat.lt_or_ge a b with h1 | h1
    · exact Nat.lt_trans (val_lt a b h1 (by omega)) hs
    · have : a = b := by omega
      subst this; exact hs
theorem val_zero : val 0 = 0 := by decide
/-- the rung and the sign of a word -/
def rung (w : Nat) : Nat := w % 2 ^ 63
def negW (w : Nat) : Bool := w / 2 ^ 63 % 2 == 1
def nanW (w : Nat) : Bool := decide (2047 * 2 ^ 52 < rung w)
/-- what a word is, in units of the least real -/
def ext (w : Nat) : Int := if negW w then -(val (rung w) : Nat) else (val (rung w) : Nat)
theorem shiftLeft_val (m k : Nat) : m <<< k = m * 2 ^ k := Nat.shiftLeft_eq m k
theorem read_eq (w : Nat) : double.read w = if rung w < 2 ^ 52 then .number (negW w) (rung w) (-1074) else if rung w < 2047 * 2 ^ 52 then .number (negW w) (2 ^ 52 + rung w % 2 ^ 52) (-1074 + (rung w / 2 ^ 52 - 1 : Nat)) else if rung w = 2047 * 2 ^ 52 then .infinity (negW w) else .nan (negW w) (rung w - 2047 * 2 ^ 52) := rfl
/-- each number is a whole number of units -/
theorem read_num (w : Nat) (h : rung w < 2047 * 2 ^ 52) : ∃ m k : Nat, double.read w = .number (negW w) m (-1074 + (k : Nat)) ∧ m * 2 ^ k = val (rung w) := by
  rw [read_eq]
  unfold val
  by_cases h1 : rung w < 2 ^ 52
  · rw [if_pos h1, if_pos h1]; exact ⟨rung w, 0, rfl, by simp⟩
  · rw [if_neg h1, if_neg h1, if_pos h, if_pos h]; exact ⟨_, _, rfl, rfl⟩
theorem compare_scale (x y : Int) (k : Nat) : compare (x * (2 ^ k : Nat)) (y * (2 ^ k : Nat)) = compare x y := by
  have hp : (0 : Int) < ((2 ^ k : Nat) : Int) := by exact_mod_cast Nat.pow_pos (by decide)
  rcases Int.lt_trichotomy x y with h | h | h
  · rw [Int.compare_eq_lt.2 h, Int.compare_eq_lt.2 (Int.mul_lt_mul_of_pos_right h hp)]
  · subst h; simp
  · rw [Int.compare_eq_gt.2 h, Int.compare_eq_gt.2 (Int.mul_lt_mul_of_pos_right h hp)]
theorem signed_scale (s : Bool) (m a b : Nat) : signed s m a * ((2 ^ b : Nat) : Int) = if s then -((m * 2 ^ (a + b) : Nat) : Int) else ((m * 2 ^ (a + b) : Nat) : Int) := by
  unfold signed
  rw [shiftLeft_val, Nat.pow_add, ← Nat.mul_assoc]
  cases s
  · simp only [Bool.false_eq_true, if_false, Int.natCast_mul]
  · simp only [if_true, Int.neg_mul, Int.natCast_mul]
theorem order_num (s t : Bool) (m n i j : Nat) : Datum.order (.number s m (-1074 + (i : Nat))) (.number t n (-1074 + (j : Nat))) = some (compare (if s then -((m * 2 ^ i : Nat) : Int) else ((m * 2 ^ i : Nat) : Int)) (if t then -((n * 2 ^ j : Nat) : Int) else ((n * 2 ^ j : Nat) : Int))) := by
  unfold Datum.order
  simp only
  congr 1
  have e1 : ((-1074 + (i : Int)) - min (-1074 + (i : Int)) (-1074 + (j : Int))).toNat = i - min i j := by omega
  have e2 : ((-1074 + (j : Int)) - min (-1074 + (i : Int)) (-1074 + (j : Int))).toNat = j - min i j := by omega
  rw [e1, e2, ← compare_scale _ _ (min i j), signed_scale, signed_scale, Nat.sub_add_cancel (Nat.min_le_left _ _), Nat.sub_add_cancel (Nat.min_le_right _ _)]
theorem ext_bound (w : Nat) (h : rung w < 2047 * 2 ^ 52) : -(top : Int) < ext w ∧ ext w < (top : Int) := by
  have := val_bound _ h
  unfold ext
  split <;> omega
theorem ext_inf (w : Nat) (h : rung w = 2047 * 2 ^ 52) : ext w = if negW w then -(top : Int) else (top : Int) := by
  have : val (rung w) = top := by
    unfold val
    rw [h, if_neg (by decide), if_neg (by decide)]
  unfold ext
  rw [this]
theorem order_ext (a b : Nat) (ha : nanW a = false) (hb : nanW b = false) : double.order a b = some (compare (ext a) (ext b)) := by
  have ha' : rung a ≤ 2047 * 2 ^ 52 := by unfold nanW at ha; rw [decide_eq_false_iff_not] at ha; omega
  have hb' : rung b ≤ 2047 * 2 ^ 52 := by unfold nanW at hb; rw [decide_eq_false_iff_not] at hb; omega
  unfold Format.order
  have rinf : ∀ w, rung w = 2047 * 2 ^ 52 → double.read w = .infinity (negW w) := by
    intro w h
    rw [read_eq, if_neg (by omega), if_neg (by omega), if_pos h]
  by_cases h1 : rung a < 2047 * 2 ^ 52
  · obtain ⟨m, i, r1, v1⟩ := read_num a h1
    by_cases h2 : rung b < 2047 * 2 ^ 52
    · obtain ⟨n, j, r2, v2⟩ := read_num b h2
      rw [r1, r2, order_num, v1, v2]
      rfl
    · have h2 : rung b = 2047 * 2 ^ 52 := by omega
      rw [r1, rinf b h2, ext_inf b h2]
      have hbd := ext_bound a h1
      cases hn : negW b
      · show some Ordering.lt = _
        rw [Int.compare_eq_lt.2 (by simp; omega)]
      · show some Ordering.gt = _
        rw [Int.compare_eq_gt.2 (by simp; omega)]
  · have h1 : rung a = 2047 * 2 ^ 52 := by omega
    by_cases h2 : rung b < 2047 * 2 ^ 52
    · obtain ⟨n, j, r2, v2⟩ := read_num b h2
      rw [r2, rinf a h1, ext_inf a h1]
      have hbd := ext_bound b h2
      cases hn : negW a
      · show some Ordering.gt = _
        rw [Int.compare_eq_gt.2 (by simp; omega)]
      · show some Ordering.lt = _
        rw [Int.compare_eq_lt.2 (by simp; omega)]
    · have h2 : rung b = 2047 * 2 ^ 52 := by omega
      rw [rinf a h1, rinf b h2, ext_inf a h1, ext_inf b h2]
      have hB := top_pos
      cases hn : negW a <;> cases hm : negW b
      · show some Ordering.eq = _; simp
      · show some Ordering.gt = _
        rw [Int.compare_eq_gt.2 (by simp; omega)]
      · show some Ordering.lt = _
        rw [Int.compare_eq_lt.2 (by simp; omega)]
      · show some Ordering.eq = _; simp
theorem order_nan (a b : Nat) (h : nanW a = true ∨ nanW b = true) : double.order a b = none := by
  have rn : ∀ w, nanW w = true → double.read w = .nan (negW w) (rung w - 2047 * 2 ^ 52) := by
    intro w h
    unfold nanW at h
    rw [decide_eq_true_eq] at h
    rw [read_eq, if_neg (by omega), if_neg (by omega), if_neg (by omega)]
  unfold Format.order
  rcases h with h | h
  · rw [rn a h]; cases double.read b <;> rfl
  · rw [rn b h]; cases double.read a <;> rfl
/-- a number by which words stand in order -/
def key (w : Nat) : Int := if negW w then -((rung w : Nat) : Int) - 1 else ((rung w : Nat) : Int)
theorem key_inj (a b : Nat) (ha : a < 2 ^ 64) (hb : b < 2 ^ 64) : key a = key b ↔ a = b := by
  constructor
  · intro h
    unfold key negW rung at h
    have h1 : a / 2 ^ 63 < 2 := Nat.div_lt_of_lt_mul (by omega)
    have h2 : b / 2 ^ 63 < 2 := Nat.div_lt_of_lt_mul (by omega)
    have ea := Nat.div_add_mod a (2 ^ 63)
    have eb := Nat.div_add_mod b (2 ^ 63)
    generalize a / 2 ^ 63 = p at *
    generalize a % 2 ^ 63 = q at *
    generalize b / 2 ^ 63 = r at *
    generalize b % 2 ^ 63 = s at *
    have hp : p = 0 ∨ p = 1 := by omega
    have hr : r = 0 ∨ r = 1 := by omega
    rcases hp with rfl | rfl <;> rcases hr with rfl | rfl <;> simp at h <;> omega
  · rintro rfl; rfl
theorem ext_mono (a b : Nat) (ha : nanW a = false) (hb : nanW b = false) (h : key a ≤ key b) : ext a ≤ ext b := by
  have ha' : rung a ≤ 2047 * 2 ^ 52 := by unfold nanW at ha; rw [decide_eq_false_iff_not] at ha; omega
  have hb' : rung b ≤ 2047 * 2 ^ 52 := by unfold nanW at hb; rw [decide_eq_false_iff_not] at hb; omega
  have mono : ∀ x y, x ≤ y → y ≤ 2047 * 2 ^ 52 → val x ≤ val y := by
    intro x y h1 h2
    rcases Nat.lt_or_ge x y with h3 | h3
    · exact Nat.le_of_lt (val_lt x y h3 h2)
    · have : x = y := by omega
      subst this; exact Nat.le_refl _
  unfold key at h
  unfold ext
  cases hn : negW a <;> cases hm : negW b <;> rw [hn, hm] at h <;> simp only [Bool.false_eq_true, if_false, if_true] at *
  · have := mono _ _ (show rung a ≤ rung b by omega) hb'; omega
  · omega
  · omega
  · have := mono _ _ (show rung b ≤ rung a by omega) ha'; omega
theorem ext_eq (a b : Nat) (ha : nanW a = false) (hb : nanW b = false) (ha4 : a < 2 ^ 64) (hb4 : b < 2 ^ 64) : ext a = ext b ↔ a = b ∨ (ext a = 0 ∧ ext b = 0) := by
  constructor
  · intro h
    have ha' : rung a ≤ 2047 * 2 ^ 52 := by unfold nanW at ha; rw [decide_eq_false_iff_not] at ha; omega
    have hb' : rung b ≤ 2047 * 2 ^ 52 := by unfold nanW at hb; rw [decide_eq_false_iff_not] at hb; omega
    have inj : val (rung a) = val (rung b) → rung a = rung b := by
      intro hv
      rcases Nat.lt_trichotomy (rung a) (rung b) with h1 | h1 | h1
      · have := val_lt _ _ h1 hb'; omega
      · exact h1
      · have := val_lt _ _ h1 ha'; omega
    by_cases hz : ext a = 0
    · right; exact ⟨hz, by omega⟩
    · left
      refine (key_inj a b ha4 hb4).1 ?_
      unfold ext at h hz
      unfold key
      cases hn : negW a <;> cases hm : negW b <;> rw [hn] at h hz <;> rw [hm] at h <;> simp only [Bool.false_eq_true, if_false, if_true] at *
      · rw [inj (by omega)]
      · omega
      · omega
      · rw [inj (by omega)]
  · rintro (rfl | ⟨h1, h2⟩)
    · rfl
    · rw [h1, h2]
theorem ext_zero : ext 0 = 0 := by
  have : negW 0 = false := by decide
  unfold ext
  rw [this, show rung 0 = 0 from by decide, val_zero]
  rfl
theorem nan_zero : nanW 0 = false := by decide
end RealO
end Go.Proofs.YtnldobfafaajjaaDoor
