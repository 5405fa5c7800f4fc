/- Plain Lean: some of a text's bits. No program in sight. -/
import Derived.Test.YtlpockgofejogaaMem
namespace Go.Proofs.Ytlpockgofejogaa
open Go.RowKit
set_option linter.unusedVariables false

def shiftOf (o p : Nat) : Nat := if o = 1 then 7 - p % 8 else p % 8
def bitAt (l : List UInt8) (o p : Nat) : Nat := (l.getD (p / 8) 0).toNat / 2 ^ shiftOf o p % 2
def getV (l : List UInt8) (o a : Nat) : Nat → Nat
  | 0 => 0
  | k + 1 => if o = 1 then getV l o a k * 2 + bitAt l o (a + k) else getV l o a k + bitAt l o (a + k) * 2 ^ k
def newB (x b v : Nat) : Nat := (x &&& (255 - 2 ^ b)) ||| (v * 2 ^ b)
def setBit (l : List UInt8) (o p v : Nat) : List UInt8 := l.set (p / 8) (UInt8.ofNat (newB (l.getD (p / 8) 0).toNat (shiftOf o p) v))
def fromOf (o n k : Nat) : Nat := if o = 1 then n - 1 - k else k
def putV (l : List UInt8) (o a n v : Nat) : Nat → List UInt8
  | 0 => l
  | k + 1 => setBit (putV l o a n v k) o (a + k) (v / 2 ^ fromOf o n k % 2)

theorem shiftOf_lt (o p : Nat) : shiftOf o p < 8 := by unfold shiftOf; split <;> omega
theorem shiftOf_inj (o p q : Nat) (h : p / 8 = q / 8) (h2 : shiftOf o p = shiftOf o q) : p = q := by
  unfold shiftOf at h2; split at h2 <;> omega
theorem bitAt_lt (l : List UInt8) (o p : Nat) : bitAt l o p < 2 := Nat.mod_lt _ (by decide)
theorem getV_lt (l : List UInt8) (o a k : Nat) : getV l o a k < 2 ^ k := by
  induction k with
  | zero => simp [getV]
  | succ k ih =>
    have hb := bitAt_lt l o (a + k)
    unfold getV
    rw [Nat.pow_succ]
    split
    · omega
    · have : bitAt l o (a + k) * 2 ^ k ≤ 1 * 2 ^ k := Nat.mul_le_mul_right _ (by omega)
      omega
theorem newB_lt : ∀ x, x < 256 → ∀ b, b < 8 → ∀ v, v < 2 → newB x b v < 256 := by unfold newB; decide +kernel
theorem newB_bit : ∀ x, x < 256 → ∀ b, b < 8 → ∀ v, v < 2 → ∀ c, c < 8 → newB x b v / 2 ^ c % 2 = if c = b then v else x / 2 ^ c % 2 := by unfold newB; decide +kernel
theorem setBit_length (l : List UInt8) (o p v : Nat) : (setBit l o p v).length = l.length := by simp [setBit]
theorem putV_length (l : List UInt8) (o a n v k : Nat) : (putV l o a n v k).length = l.length := by
  induction k with
  | zero => rfl
  | succ k ih => rw [putV, setBit_length, ih]
theorem setBit_bit (l : List UInt8) (o p v q : Nat) (hp : p < 8 * l.length) (hv : v < 2) : bitAt (setBit l o p v) o q = if q = p then v else bitAt l o q := by
  have hx : (l.getD (p / 8) 0).toNat < 256 := UInt8.toNat_lt _
  have hn := newB_lt _ hx _ (shiftOf_lt o p) v hv
  unfold bitAt setBit
  by_cases h : p / 8 = q / 8
  · have e : (l.set (p / 8) (UInt8.ofNat (newB (l.getD (p / 8) 0).toNat (shiftOf o p) v))).getD (q / 8) 0 = UInt8.ofNat (newB (l.getD (p / 8) 0).toNat (shiftOf o p) v) := by
      rw [List.getD_eq_getElem?_getD, List.getElem?_set, if_pos h, if_pos (by omega)]; rfl
    rw [e, UInt8.toNat_ofNat', Nat.mod_eq_of_lt hn, newB_bit _ hx _ (shiftOf_lt o p) v hv _ (shiftOf_lt o q)]
    by_cases h2 : shiftOf o q = shiftOf o p
    · rw [if_pos h2, if_pos (shiftOf_inj o q p h.symm h2)]
    · rw [if_neg h2, if_neg (fun e => h2 (by rw [e])), h]
  · have e : (l.set (p / 8) (UInt8.ofNat (newB (l.getD (p / 8) 0).toNat (shiftOf o p) v))).getD (q / 8) 0 = l.getD (q / 8) 0 := by
      rw [List.getD_eq_getElem?_getD, List.getElem?_set, if_neg h, List.getD_eq_getElem?_getD]
    rw [e, if_neg (fun e => h (by rw [e]))]
theorem putV_bit (l : List UInt8) (o a n v q : Nat) (h : a + n ≤ 8 * l.length) : ∀ k, k ≤ n →
    bitAt (putV l o a n v k) o q = if a ≤ q ∧ q < a + k then v / 2 ^ fromOf o n (q - a) % 2 else bitAt l o q := by
  intro k
  induction k with
  | zero => intro _; rw [putV, if_neg (by omega)]
  | succ k ih =>
    intro hk
    rw [putV, setBit_bit _ _ _ _ _ (by rw [putV_length]; omega) (Nat.mod_lt _ (by decide)), ih (by omega)]
    by_cases e : q = a + k
    · subst e; rw [if_pos rfl, if_pos (by omega), Nat.add_sub_cancel_left]
    · rw [if_neg e]
      by_cases h2 : a ≤ q ∧ q < a + k
      · rw [if_pos h2, if_pos (by omega)]
      · rw [if_neg h2, if_neg (by omega)]
theorem putV_out (l : List UInt8) (o a n v q : Nat) (h : a + n ≤ 8 * l.length) (hq : ¬ (a ≤ q ∧ q < a + n)) : bitAt (putV l o a n v n) o q = bitAt l o q := by
  rw [putV_bit l o a n v q h n (Nat.le_refl _), if_neg hq]
theorem mod_two_pow_succ (v k : Nat) : v % 2 ^ (k + 1) = v % 2 ^ k + v / 2 ^ k % 2 * 2 ^ k := by
  rw [Nat.pow_succ, Nat.mod_mul, Nat.mul_comm (2 ^ k)]
theorem div_two_pow_succ (v n k : Nat) (h : k < n) : v / 2 ^ (n - 1 - k) % 2 ^ (k + 1) = v / 2 ^ (n - k) % 2 ^ k * 2 + v / 2 ^ (n - 1 - k) % 2 := by
  have e : n - k = (n - 1 - k) + 1 := by omega
  rw [e, Nat.pow_succ 2 (n - 1 - k), ← Nat.div_div_eq_div_mul, Nat.pow_succ, Nat.mul_comm (2 ^ k) 2, Nat.mod_mul]
  omega
theorem getV_putV (l : List UInt8) (o a n v : Nat) (h : a + n ≤ 8 * l.length) : getV (putV l o a n v n) o a n = v % 2 ^ n := by
  by_cases ho : o = 1
  · have : ∀ k, k ≤ n → getV (putV l o a n v n) o a k = v / 2 ^ (n - k) % 2 ^ k := by
      intro k
      induction k with
      | zero => intro _; simp [getV]; omega
      | succ k ih =>
        intro hk
        rw [getV, if_pos ho, ih (by omega), putV_bit l o a n v _ h n (Nat.le_refl _), if_pos (by omega), Nat.add_sub_cancel_left, fromOf, if_pos ho]
        rw [show n - (k + 1) = n - 1 - k from by omega, div_two_pow_succ v n k (by omega)]
    rw [this n (Nat.le_refl _), Nat.sub_self]; simp
  · have : ∀ k, k ≤ n → getV (putV l o a n v n) o a k = v % 2 ^ k := by
      intro k
      induction k with
      | zero => intro _; simp [getV]; omega
      | succ k ih =>
        intro hk
        rw [getV, if_neg ho, ih (by omega), putV_bit l o a n v _ h n (Nat.le_refl _), if_pos (by omega), Nat.add_sub_cancel_left, fromOf, if_neg ho, mod_two_pow_succ]
    exact this n (Nat.le_refl _)
theorem getV_one (l : List UInt8) (o a : Nat) : getV l o a 1 = bitAt l o a := by
  simp [getV]
theorem getV_big (l : List UInt8) (a n m : Nat) : getV l 1 a (n + m) = getV l 1 a n * 2 ^ m + getV l 1 (a + n) m := by
  induction m with
  | zero => simp [getV]
  | succ m ih =>
    rw [← Nat.add_assoc, getV, if_pos rfl, ih, getV, if_pos rfl, Nat.pow_succ, Nat.add_assoc a n m, Nat.add_mul, Nat.mul_assoc]
    omega
theorem getV_little (l : List UInt8) (a n m : Nat) : getV l 0 a (n + m) = getV l 0 (a + n) m * 2 ^ n + getV l 0 a n := by
  induction m with
  | zero => simp [getV]
  | succ m ih =>
    rw [← Nat.add_assoc, getV, if_neg (by decide), ih, getV, if_neg (by decide), Nat.pow_add, Nat.add_assoc a n m, Nat.add_mul, Nat.mul_assoc, Nat.mul_comm (2 ^ n)]
    omega

/-! the walk's own forms -/
theorem ndiv_cast (b c : Nat) : ((b : Int) / 2 ^ c) = ((b / 2 ^ c : Nat) : Int) := by simp
theorem and_one (x : Nat) (hx : x < 18446744073709551616) : bits .and .u64 (x : Int) 1 = ((x % 2 : Nat) : Int) := by
  have := u64_and_nat x 1 hx (by decide)
  rw [nat_mask1] at this
  exact this
theorem bit_form (b sh : Nat) (hb : b < 256) : bits .and .u64 (IntKind.u64.wrap ((b : Int) / 2 ^ sh)) 1 = ((b / 2 ^ sh % 2 : Nat) : Int) := by
  have h : b / 2 ^ sh ≤ b := Nat.div_le_self _ _
  rw [ndiv_cast]
  generalize b / 2 ^ sh = q at *
  rw [IntWalk.u64_in _ ⟨by omega, by omega⟩, and_one _ (by omega)]
theorem pow2_le {k n : Nat} (h : k ≤ n) : 2 ^ k ≤ 2 ^ n := Nat.pow_le_pow_right (by decide) h
theorem or_little (G v k : Nat) (hG : G < 2 ^ k) (hv : v < 2) (hk : k < 64) :
    bits .or .u64 (G : Int) (IntKind.u64.wrap ((v : Int) * 2 ^ k)) = ((G + v * 2 ^ k : Nat) : Int) := by
  have h1 : v * 2 ^ k ≤ 1 * 2 ^ k := Nat.mul_le_mul_right _ (by omega)
  have h2 : 2 ^ k ≤ 2 ^ 63 := pow2_le (by omega)
  have e : ((v : Int) * 2 ^ k) = ((v * 2 ^ k : Nat) : Int) := by simp
  rw [e, IntWalk.u64_in _ ⟨by omega, by omega⟩, bits_or_u64_nat _ _ (by omega) (by omega), Nat.or_comm, nat_join k _ _ (by simp) hG, Nat.add_comm]
theorem or_big (G v k : Nat) (hG : G < 2 ^ k) (hv : v < 2) (hk : k < 64) :
    bits .or .u64 (IntKind.u64.wrap ((G : Int) * 2)) (v : Int) = ((G * 2 + v : Nat) : Int) := by
  have h2 : 2 ^ k ≤ 2 ^ 63 := pow2_le (by omega)
  have e : ((G : Int) * 2) = ((G * 2 : Nat) : Int) := by simp
  rw [e, IntWalk.u64_in _ ⟨by omega, by omega⟩, bits_or_u64_nat _ _ (by omega) (by omega), nat_join 1 _ _ (by simp) (by omega)]
theorem byte_lt (s : ByteArray) (i : Nat) (h : i < s.size) : s[i].toNat < 256 := UInt8.toNat_lt _
theorem byteAt (s : ByteArray) (i : Nat) (h : i < s.size) : s[i] = s.data.toList.getD i 0 := by
  have h' : i < s.data.toList.length := by rw [Array.length_toList]; exact h
  rw [List.getD_eq_getElem?_getD, List.getElem?_eq_getElem h']
  rfl
theorem getV_little_step (s : ByteArray) (a k G ix sh : Nat) (hG : getV s.data.toList 0 a k = G) (hI : (a + k) / 8 = ix) (hS : shiftOf 0 (a + k) = sh) (hg : G < 2 ^ k) (hk : k < 64) (hx : ix < s.size) :
    bits .or .u64 (G : Int) (IntKind.u64.wrap (bits .and .u64 (IntKind.u64.wrap (((s[ix].toNat : Nat) : Int) / 2 ^ sh)) 1 * 2 ^ k)) = ((getV s.data.toList 0 a (k + 1) : Nat) : Int) := by
  rw [bit_form _ _ (byte_lt s ix hx), or_little G _ k hg (Nat.mod_lt _ (by decide)) hk, getV, if_neg (by decide), hG, bitAt, hI, hS, byteAt]
theorem getV_big_step (s : ByteArray) (a k G ix sh : Nat) (hG : getV s.data.toList 1 a k = G) (hI : (a + k) / 8 = ix) (hS : shiftOf 1 (a + k) = sh) (hg : G < 2 ^ k) (hk : k < 64) (hx : ix < s.size) :
    bits .or .u64 (IntKind.u64.wrap ((G : Int) * 2)) (bits .and .u64 (IntKind.u64.wrap (((s[ix].toNat : Nat) : Int) / 2 ^ sh)) 1) = ((getV s.data.toList 1 a (k + 1) : Nat) : Int) := by
  rw [bit_form _ _ (byte_lt s ix hx), or_big G _ k hg (Nat.mod_lt _ (by decide)) hk, getV, if_pos rfl, hG, bitAt, hI, hS, byteAt]
theorem pow_cast_small (sh : Nat) (h : sh < 8) : (2 : Int) ^ sh % 256 = ((2 ^ sh : Nat) : Int) ∧ 2 ^ sh < 256 := by
  obtain rfl | rfl | rfl | rfl | rfl | rfl | rfl | rfl : sh = 0 ∨ sh = 1 ∨ sh = 2 ∨ sh = 3 ∨ sh = 4 ∨ sh = 5 ∨ sh = 6 ∨ sh = 7 := by omega
  all_goals decide
theorem put_form (x sh y : Nat) (hx : x < 256) (hsh : sh < 8) (hy : y < 18446744073709551616) :
    bits .or .u8 (bits .andNot .u8 (x : Int) (2 ^ sh % 256)) (bits .and .u64 (y : Int) 1 % 256 * 2 ^ sh % 256) = ((newB x sh (y % 2) : Nat) : Int) := by
  obtain ⟨h1, h2⟩ := pow_cast_small sh hsh
  have hv : y % 2 < 2 := Nat.mod_lt _ (by decide)
  rw [and_one _ hy, h1]
  generalize y % 2 = v at *
  have e : ((v : Int) % 256 * 2 ^ sh % 256) = ((v * 2 ^ sh : Nat) : Int) := by
    obtain rfl | rfl : v = 0 ∨ v = 1 := by omega
    · simp
    · simp only [Nat.one_mul]; rw [← h1]; simp
  have h3 : v * 2 ^ sh ≤ 1 * 2 ^ sh := Nat.mul_le_mul_right _ (by omega)
  have h4 : x &&& (255 - 2 ^ sh) ≤ x := Nat.and_le_left
  rw [e, u8_andNot_nat _ _ hx h2, u8_or_nat _ _ (by omega) (by omega)]
  rfl
theorem put_step (l L : List UInt8) (o a n v k ix sh x y : Nat) (hL : putV l o a n v k = L) (hI : (a + k) / 8 = ix) (hS : shiftOf o (a + k) = sh) (hX : (L.getD ix 0).toNat = x) (hsh : sh < 8) (hy : y < 18446744073709551616)
    (hfrom : y % 2 = v / 2 ^ fromOf o n k % 2) :
    (bvals L).set ix (.int .u8 (bits .or .u8 (bits .andNot .u8 (x : Int) (2 ^ sh % 256)) (bits .and .u64 (y : Int) 1 % 256 * 2 ^ sh % 256))) = bvals (putV l o a n v (k + 1)) := by
  have hx : x < 256 := by rw [← hX]; exact UInt8.toNat_lt _
  rw [put_form x sh y hx hsh hy, putV, setBit, hL, hI, hS, hX, ← hfrom, ← bvals_set]
  congr 2
  rw [UInt8.toNat_ofNat', Nat.mod_eq_of_lt (newB_lt _ hx _ hsh _ (Nat.mod_lt _ (by decide)))]
end Go.Proofs.Ytlpockgofejogaa
