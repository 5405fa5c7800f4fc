/- Plain Lean: a register's step can be undone; turned bits. No program in sight. -/
import Derived.Test.YtdjddiajnalffaaPlainSums
namespace Go.Proofs.Ytdjddiajnalffaa
open Go.RowKit
set_option linter.unusedVariables false
set_option linter.unusedSimpArgs false
def backB (w p r : Nat) : Nat := ((r ^^^ (p * (r % 2))) / 2) ||| (r % 2 * 2 ^ (w - 1))
theorem xor_even (a b : Nat) : (a ^^^ b) % 2 = ((a % 2) ^^^ (b % 2)) := by
  have := bit_xor a b 0
  simpa using this
theorem xor_back (a b : Nat) : (a ^^^ b) ^^^ b = a := by rw [Nat.xor_assoc, Nat.xor_self, Nat.xor_zero]
theorem half_join (w q t : Nat) (hw : 0 < w) (hq : q < 2 ^ (w - 1)) (ht : t < 2) : (q ||| t * 2 ^ (w - 1)) = q + t * 2 ^ (w - 1) := by
  rw [Nat.or_comm, Nat.add_comm, nat_join (w - 1) (t * 2 ^ (w - 1)) q (by simp) hq]
theorem pow_half (w : Nat) (hw : 0 < w) : 2 ^ w = 2 * 2 ^ (w - 1) := by
  rw [← Nat.pow_succ']; congr 1; omega
theorem back_step (w p r : Nat) (hw : 0 < w) (hp : p % 2 = 1) (hr : r < 2 ^ w) : backB w p (stepB w p r) = r := by
  have hW := pow_half w hw
  have hP : 0 < 2 ^ (w - 1) := Nat.pow_pos (by decide)
  have h0 := Nat.div_add_mod r (2 ^ (w - 1))
  have hq : r % 2 ^ (w - 1) < 2 ^ (w - 1) := Nat.mod_lt _ hP
  have ht : r / 2 ^ (w - 1) < 2 := by rw [Nat.div_lt_iff_lt_mul hP]; omega
  unfold stepB
  rw [Nat.mod_eq_of_lt ht]
  generalize r / 2 ^ (w - 1) = t at *
  generalize r % 2 ^ (w - 1) = q at *
  generalize hP2 : 2 ^ (w - 1) = P at *
  have e1 : r * 2 % 2 ^ w = 2 * q := by
    rw [hW]
    obtain rfl | rfl : t = 0 ∨ t = 1 := by omega
    · rw [show r * 2 = 2 * q by omega, Nat.mod_eq_of_lt (by omega)]
    · rw [show r * 2 = 2 * q + 2 * P by omega, Nat.add_mod_right, Nat.mod_eq_of_lt (by omega)]
  rw [e1]
  have e2 : (2 * q ^^^ p * t) % 2 = t := by
    rw [xor_even]
    obtain rfl | rfl : t = 0 ∨ t = 1 := by omega
    · simp
    · simp [hp]
  unfold backB
  rw [e2, xor_back, show 2 * q / 2 = q by omega, half_join w q t hw (by omega) ht, hP2, Nat.mul_comm t]
  omega
theorem step_back (w p r : Nat) (hw : 0 < w) (hp : p % 2 = 1) (hpw : p < 2 ^ w) (hr : r < 2 ^ w) : stepB w p (backB w p r) = r ∧ backB w p r < 2 ^ w := by
  have hW := pow_half w hw
  have hP : 0 < 2 ^ (w - 1) := Nat.pow_pos (by decide)
  have ht : r % 2 < 2 := Nat.mod_lt _ (by decide)
  have hv : (r ^^^ p * (r % 2)) % 2 = 0 := by
    rw [xor_even]
    obtain h | h : r % 2 = 0 ∨ r % 2 = 1 := by omega
    · simp [h]
    · simp [h, hp]
  have hl : r ^^^ p * (r % 2) < 2 ^ w := by
    apply Nat.xor_lt_two_pow hr
    obtain h | h : r % 2 = 0 ∨ r % 2 = 1 := by omega
    · rw [h]; simp; omega
    · rw [h]; simpa using hpw
  have hx : (r ^^^ p * (r % 2)) ^^^ p * (r % 2) = r := xor_back _ _
  unfold backB
  generalize r % 2 = t at *
  generalize r ^^^ p * t = v at *
  rw [half_join w (v / 2) t hw (by omega) ht]
  generalize hP2 : 2 ^ (w - 1) = P at *
  unfold stepB
  rw [hP2]
  have e1 : (v / 2 + t * P) * 2 % 2 ^ w = v := by
    rw [hW]
    clear hx
    obtain rfl | rfl : t = 0 ∨ t = 1 := by omega
    · rw [show (v / 2 + 0 * P) * 2 = v by omega, Nat.mod_eq_of_lt (by omega)]
    · rw [show (v / 2 + 1 * P) * 2 = v + 2 * P by omega, Nat.add_mod_right, Nat.mod_eq_of_lt (by omega)]
  have e2 : (v / 2 + t * P) / P % 2 = t := by
    rw [Nat.add_mul_div_right _ _ hP, Nat.div_eq_of_lt (by omega)]
    omega
  rw [e1, e2]
  refine ⟨hx, ?_⟩
  rw [hW]
  obtain rfl | rfl : t = 0 ∨ t = 1 := by omega
  · omega
  · omega
theorem stepB_zero (w p : Nat) : stepB w p 0 = 0 := by unfold stepB; simp
theorem stepK_zero (w p k : Nat) : stepK w p 0 k = 0 := by
  induction k with
  | zero => rfl
  | succ k ih => rw [stepK, ih, stepB_zero]
theorem stepB_inj (w p a b : Nat) (hw : 0 < w) (hp : p % 2 = 1) (ha : a < 2 ^ w) (hb : b < 2 ^ w) (h : stepB w p a = stepB w p b) : a = b := by
  rw [← back_step w p a hw hp ha, h, back_step w p b hw hp hb]
theorem stepK_inj (w p : Nat) (hw : 0 < w) (hp : p % 2 = 1) (hpw : p < 2 ^ w) (k : Nat) : ∀ a b, a < 2 ^ w → b < 2 ^ w → stepK w p a k = stepK w p b k → a = b := by
  induction k with
  | zero => intro a b _ _ h; exact h
  | succ k ih => intro a b ha hb h; exact ih a b ha hb (stepB_inj w p _ _ hw hp (stepK_lt w p a k hpw ha) (stepK_lt w p b k hpw hb) h)
theorem stepK_add (w p r a b : Nat) : stepK w p (stepK w p r a) b = stepK w p r (a + b) := by
  induction b with
  | zero => rfl
  | succ b ih => rw [← Nat.add_assoc, stepK, stepK, ih]
theorem stepB_small (w p x : Nat) (hw : 0 < w) (h : x < 2 ^ (w - 1)) : stepB w p x = x * 2 := by
  have hW := pow_half w hw
  unfold stepB
  rw [Nat.div_eq_of_lt h, Nat.mod_eq_of_lt (by omega)]
  simp
theorem stepK_small (w p x : Nat) (hw : 0 < w) (k : Nat) (h : x * 2 ^ k < 2 ^ w) : stepK w p x k = x * 2 ^ k := by
  induction k with
  | zero => simp [stepK]
  | succ k ih =>
    have hW := pow_half w hw
    have e : x * 2 ^ (k + 1) = 2 * (x * 2 ^ k) := by rw [Nat.pow_succ']; rw [← Nat.mul_assoc, ← Nat.mul_assoc, Nat.mul_comm x 2]
    rw [stepK, ih (by omega), stepB_small w p _ hw (by omega)]
    omega
theorem turnTo_zero (k : Nat) : turnTo 0 k = 0 := by
  induction k with
  | zero => rfl
  | succ k ih => rw [turnTo, ih]; simp
theorem cOf_zero (m : SumP) : cOf m 0 = 0 := by unfold cOf; split <;> simp [turnTo_zero]
theorem stepN_zero (m : SumP) (r : Nat) : stepN m r 0 = stepK m.w m.p r 8 := by rw [stepN, cOf_zero]; simp
theorem foldN_reg (m : SumP) (l : List UInt8) : ∀ a b, foldN m (a ^^^ b) l = foldN m a l ^^^ stepK m.w m.p b (8 * l.length) := by
  induction l with
  | nil => intro a b; rfl
  | cons c l ih =>
    intro a b
    show foldN m (stepN m (a ^^^ b) c.toNat) l = foldN m (stepN m a c.toNat) l ^^^ _
    have := stepN_xor m a b c.toNat 0
    rw [Nat.xor_zero] at this
    rw [this, ih, stepN_zero, stepK_add]
    congr 2
    simp only [List.length_cons]; omega

/-! one bit turned -/
def crcM : SumP := ⟨32, 79764919, true, 4294967295, 4294967295⟩
theorem one_bit : ∀ k, k < 8 → cOf crcM (2 ^ k) * 2 ^ (crcM.w - 8) = 2 ^ (31 - k) := by decide
theorem one_bit2 (k : Nat) (hk : k < 8) : stepN crcM 0 (2 ^ k) = stepK 32 79764919 (2 ^ 31) (8 - k) := by
  rw [stepN, one_bit k hk, Nat.zero_xor]
  show stepK 32 79764919 (2 ^ (31 - k)) 8 = _
  have h : stepK 32 79764919 (2 ^ (31 - k)) k = 2 ^ 31 := by
    have e : 2 ^ (31 - k) * 2 ^ k = 2 ^ 31 := by rw [← Nat.pow_add]; congr 1; omega
    rw [stepK_small _ _ _ (by decide) _ (by rw [e]; decide), e]
  rw [← h, stepK_add]
  congr 1; omega
def turnBit (l : List UInt8) (q : Nat) : List UInt8 := l.set (q / 8) (UInt8.ofNat ((l.getD (q / 8) 0).toNat ^^^ 2 ^ (q % 8)))
theorem turnBit_length (l : List UInt8) (q : Nat) : (turnBit l q).length = l.length := by simp [turnBit]
theorem pow_byte (k : Nat) (h : k < 8) : 2 ^ k < 256 := by
  have := Nat.pow_lt_pow_right (a := 2) (by decide) h
  omega
theorem set_byte (c : UInt8) (k : Nat) (h : k < 8) : (UInt8.ofNat (c.toNat ^^^ 2 ^ k)).toNat = c.toNat ^^^ 2 ^ k := by
  rw [UInt8.toNat_ofNat']
  exact Nat.mod_eq_of_lt (Nat.xor_lt_two_pow (n := 8) (UInt8.toNat_lt c) (pow_byte k h))
theorem fold_turn (k : Nat) (hk : k < 8) : ∀ (l : List UInt8) (j r : Nat), j < l.length →
    foldN crcM r (l.set j (UInt8.ofNat ((l.getD j 0).toNat ^^^ 2 ^ k))) = foldN crcM r l ^^^ stepK 32 79764919 (2 ^ 31) (8 * l.length - (8 * j + k))
  | [], j, r, h => by simp at h
  | c :: l, 0, r, h => by
    show foldN crcM (stepN crcM r (UInt8.ofNat (c.toNat ^^^ 2 ^ k)).toNat) l = foldN crcM (stepN crcM r c.toNat) l ^^^ _
    have := stepN_xor crcM r 0 c.toNat (2 ^ k)
    rw [Nat.xor_zero] at this
    rw [set_byte c k hk, this, foldN_reg, one_bit2 k hk]
    show _ ^^^ stepK 32 79764919 _ _ = _
    rw [stepK_add]
    congr 2
    simp only [List.length_cons]; omega
  | c :: l, j + 1, r, h => by
    show foldN crcM (stepN crcM r c.toNat) (l.set j (UInt8.ofNat ((l.getD j 0).toNat ^^^ 2 ^ k))) = foldN crcM (stepN crcM r c.toNat) l ^^^ _
    rw [fold_turn k hk l j _ (by simpa using h)]
    congr 2
    simp only [List.length_cons]; omega
def flipTo (l : List UInt8) (a b : Nat) : Nat → List UInt8
  | 0 => l
  | i + 1 => if b.testBit i then turnBit (flipTo l a b i) (a + i) else flipTo l a b i
theorem flipTo_length (l : List UInt8) (a b : Nat) : ∀ i, (flipTo l a b i).length = l.length
  | 0 => rfl
  | i + 1 => by
    unfold flipTo
    split
    · rw [turnBit_length, flipTo_length l a b i]
    · exact flipTo_length l a b i
def winTo (b : Nat) : Nat → Nat
  | 0 => 0
  | i + 1 => if b.testBit i then winTo b i ^^^ 2 ^ (31 - i) else winTo b i
theorem winTo_bit (b j : Nat) (hj : j < 32) : ∀ i, i ≤ 32 → (winTo b i).testBit (31 - j) = (decide (j < i) && b.testBit j)
  | 0, _ => by simp [winTo]
  | i + 1, h => by
    have ih := winTo_bit b j hj i (by omega)
    unfold winTo
    by_cases hij : j = i
    · subst hij
      have h1 : ¬ j < j := by omega
      have h2 : j < j + 1 := by omega
      simp only [h1, decide_false, Bool.false_and] at ih
      split
      · rename_i hb
        rw [Nat.testBit_xor, ih, Nat.testBit_two_pow, hb]
        simp
      · rename_i hb
        rw [ih]
        simp [hb]
    · have e : decide (j < i + 1) = decide (j < i) := by
        rw [decide_eq_decide]; omega
      rw [e, ← ih]
      split
      · rw [Nat.testBit_xor, Nat.testBit_two_pow]
        have : ¬ 31 - i = 31 - j := by omega
        simp [this]
      · rfl
theorem winTo_lt (b : Nat) : ∀ i, winTo b i < 2 ^ 32
  | 0 => by simp [winTo]
  | i + 1 => by
    unfold winTo
    split
    · exact Nat.xor_lt_two_pow (winTo_lt b i) (Nat.pow_lt_pow_right (by decide) (by omega))
    · exact winTo_lt b i
theorem flipTo_none (l : List UInt8) (a b : Nat) : ∀ i, (∀ j, j < i → b.testBit j = false) → flipTo l a b i = l
  | 0, _ => rfl
  | i + 1, h => by
    unfold flipTo
    rw [h i (by omega)]
    simp only [Bool.false_eq_true, if_false]
    exact flipTo_none l a b i (fun j hj => h j (by omega))
theorem fold_flip (l : List UInt8) (a b r : Nat) : ∀ i, i ≤ 32 → a + i ≤ 8 * l.length →
    foldN crcM r (flipTo l a b i) = foldN crcM r l ^^^ stepK 32 79764919 (winTo b i) (8 * l.length - a)
  | 0, _, _ => by simp [flipTo, winTo, stepK_zero]
  | i + 1, h, hl => by
    have ih := fold_flip l a b r i (by omega) (by omega)
    unfold flipTo winTo
    split
    · have hlen := flipTo_length l a b i
      unfold turnBit
      rw [fold_turn ((a + i) % 8) (Nat.mod_lt _ (by decide)) _ _ _ (by omega), ih, stepK_xor, Nat.xor_assoc]
      congr 2
      have e : stepK 32 79764919 (2 ^ (31 - i)) i = 2 ^ 31 := by
        have e : 2 ^ (31 - i) * 2 ^ i = 2 ^ 31 := by rw [← Nat.pow_add]; congr 1; omega
        rw [stepK_small _ _ _ (by decide) _ (by rw [e]; decide), e]
      rw [← e, stepK_add]
      congr 1
      omega
    · exact ih
theorem turnTo_inj0 (n : Nat) : ∀ k, turnTo n k = 0 → n % 2 ^ k = 0
  | 0, _ => by omega
  | k + 1, h => by
    unfold turnTo at h
    have h1 := turnTo_inj0 n k (by omega)
    rw [Nat.mod_pow_succ]
    have h2 : n / 2 ^ k % 2 = 0 := by omega
    simp [h1, h2]
theorem xor_eq_zero (a b : Nat) (h : a ^^^ b = 0) : a = b := by
  have := xor_back a b
  rw [h, Nat.zero_xor] at this
  exact this.symm
theorem turnTo_inj (k a b : Nat) (ha : a < 2 ^ k) (hb : b < 2 ^ k) (h : turnTo a k = turnTo b k) : a = b := by
  have h1 : turnTo (a ^^^ b) k = 0 := by rw [turnTo_xor, h, Nat.xor_self]
  have h2 := turnTo_inj0 _ k h1
  rw [Nat.mod_eq_of_lt (Nat.xor_lt_two_pow ha hb)] at h2
  exact xor_eq_zero _ _ h2
theorem outN_inj (m : SumP) (a b : Nat) (ha : a < 2 ^ m.w) (hb : b < 2 ^ m.w) (h : outN m a = outN m b) : a = b := by
  unfold outN at h
  have h2 : (if m.t = true then turnTo a m.w else a) = (if m.t = true then turnTo b m.w else b) := by
    rw [← xor_back (if m.t = true then turnTo a m.w else a) m.o, h, xor_back]
  split at h2
  · exact turnTo_inj _ _ _ ha hb h2
  · exact h2
theorem burst (l : List UInt8) (a b n : Nat) (hn : n ≤ 32) (ha : a + n ≤ 8 * l.length) : ofN crcM (flipTo l a b n) = ofN crcM l ↔ flipTo l a b n = l := by
  have hok : crcM.Ok := ⟨.inr (.inr rfl), by decide, by decide, by decide, by decide⟩
  constructor
  · intro h
    have h1 := outN_inj crcM _ _ (foldN_lt crcM hok _ _ hok.i) (foldN_lt crcM hok _ _ hok.i) h
    rw [fold_flip l a b _ n hn ha] at h1
    have h2 : stepK 32 79764919 (winTo b n) (8 * l.length - a) = 0 := by
      have := congrArg (fun x => foldN crcM crcM.i l ^^^ x) h1
      simp only [← Nat.xor_assoc, Nat.xor_self, Nat.zero_xor] at this
      exact this
    have h3 := stepK_inj 32 79764919 (by decide) (by decide) (by decide) (8 * l.length - a) (winTo b n) 0 (winTo_lt b n) (by decide) (by rw [h2, stepK_zero])
    apply flipTo_none
    intro j hj
    have := winTo_bit b j (by omega) n hn
    rw [h3] at this
    simp [hj] at this
    exact this
  · intro h; rw [h]
end Go.Proofs.Ytdjddiajnalffaa
