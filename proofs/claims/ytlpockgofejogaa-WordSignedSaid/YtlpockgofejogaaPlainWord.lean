/- Plain Lean: numbers as bytes, in either order. No program in sight. -/
import Derived.Test.YtlpockgofejogaaCommon
namespace Go.Proofs.Ytlpockgofejogaa
open Go.RowKit
set_option linter.unusedVariables false

/-- which byte the k-th one is -/
def plc (k n o : Nat) : Nat := if o = 1 then n - 1 - k else k
/-- the k-th byte of a number -/
def byteOf (n k : Nat) : Nat := n / 256 ^ k % 256
/-- the row after k rounds of Put -/
def putCell (n wd o k j : Nat) : Nat := if plc j wd o < k then byteOf n (plc j wd o) else 0
def putRow (n wd o k : Nat) : List Value := (List.range wd).map fun j => .int .u8 ((putCell n wd o k j : Nat) : Int)
/-- a number as bytes -/
def putB (n wd o : Nat) : List UInt8 := (List.range wd).map fun j => UInt8.ofNat (byteOf n (plc j wd o))

theorem plc_lt {k n o : Nat} (h : k < n) : plc k n o < n := by unfold plc; split <;> omega
theorem plc_plc {k n o : Nat} (h : k < n) : plc (plc k n o) n o = k := by unfold plc; split <;> omega
theorem byteOf_lt (n k : Nat) : byteOf n k < 256 := Nat.mod_lt _ (by decide)

theorem putRow_length (n wd o k : Nat) : (putRow n wd o k).length = wd := by simp [putRow]
theorem putRow_zero (n wd o : Nat) : putRow n wd o 0 = List.replicate wd (.int .u8 0) := by
  apply List.ext_getElem
  · simp [putRow]
  · intro i h1 h2; simp [putRow, putCell]
theorem putRow_step (n wd o k : Nat) (h : k < wd) : (putRow n wd o k).set (plc k wd o) (.int .u8 ((byteOf n k : Nat) : Int)) = putRow n wd o (k + 1) := by
  apply List.ext_getElem
  · simp [putRow]
  · intro i h1 h2
    have hi : i < wd := by simpa [putRow] using h2
    rw [List.getElem_set]
    by_cases e : plc k wd o = i
    · subst e
      simp [putRow, putCell, plc_plc h]
    · rw [if_neg e]
      have : plc i wd o ≠ k := fun e' => e (by rw [← e', plc_plc hi])
      simp only [putRow, putCell, List.getElem_map, List.getElem_range]
      congr 2
      by_cases h' : plc i wd o < k
      · rw [if_pos h', if_pos (by omega)]
      · rw [if_neg h', if_neg (by omega)]
theorem pow_8k (k : Nat) : (2 : Int) ^ (8 * k) = ((256 ^ k : Nat) : Int) := by
  rw [Int.pow_mul]; simp
theorem byteOf_shr (n k : Nat) : ((n : Int) / 2 ^ (8 * k)) % 256 = ((byteOf n k : Nat) : Int) := by
  unfold byteOf
  rw [pow_8k]; simp
theorem putB_length (n wd o : Nat) : (putB n wd o).length = wd := by simp [putB]
theorem putCell_all (n wd o j : Nat) (h : j < wd) : putCell n wd o wd j = byteOf n (plc j wd o) := by
  unfold putCell; rw [if_pos (plc_lt h)]
theorem putB_of_row (n wd o : Nat) : strOfNums ((List.range wd).map fun j => ((putCell n wd o wd j : Nat) : Int)) = bstr (putB n wd o) := by
  rw [strOfNums_eq]
  congr 1
  rw [List.map_map]
  apply List.map_congr_left
  intro j hj
  have hj' : j < wd := by simpa using hj
  simp [putCell_all n wd o j hj']

/-- the number that the first k bytes from 'at' on make -/
def getN (l : List UInt8) (a wd o : Nat) : Nat → Nat
  | 0 => 0
  | k + 1 => getN l a wd o k + (l.getD (a + plc k wd o) 0).toNat * 256 ^ k
theorem getN_lt (l : List UInt8) (a wd o k : Nat) : getN l a wd o k < 256 ^ k := by
  induction k with
  | zero => simp [getN]
  | succ k ih =>
    have hb := (l.getD (a + plc k wd o) 0).toNat_lt
    have : (l.getD (a + plc k wd o) 0).toNat * 256 ^ k ≤ 255 * 256 ^ k := Nat.mul_le_mul_right _ (by omega)
    simp only [getN, Nat.pow_succ]
    omega
theorem pow256_le {k : Nat} (h : k ≤ 8) : 256 ^ k ≤ 18446744073709551616 := by
  have := Nat.pow_le_pow_right (n := 256) (by decide) h
  simpa using this
theorem or_step (g b k : Nat) (hg : g < 256 ^ k) (hb : b < 256) (hk : k < 8) :
    bits .or .u64 (g : Int) (IntKind.u64.wrap ((b : Int) * 2 ^ (8 * k))) = ((g + b * 256 ^ k : Nat) : Int) := by
  have h1 : b * 256 ^ k < 256 ^ (k + 1) := by
    rw [Nat.pow_succ, Nat.mul_comm]
    exact Nat.mul_lt_mul_of_pos_left hb (Nat.pow_pos (by decide))
  have h2 := pow256_le (show k + 1 ≤ 8 by omega)
  have h3 := pow256_le (show k ≤ 8 by omega)
  have h4 : IntKind.u64.wrap ((b : Int) * 2 ^ (8 * k)) = ((b * 256 ^ k : Nat) : Int) := by
    rw [pow_8k, ← Int.natCast_mul]
    exact IntWalk.u64_in _ ⟨by omega, by omega⟩
  rw [h4, bits_or_u64_nat _ _ (by omega) (by omega), Nat.or_comm]
  have h5 : b * 256 ^ k ||| g = b * 256 ^ k + g := by
    have e : 256 ^ k = 2 ^ (8 * k) := by rw [Nat.pow_mul]
    apply nat_join (8 * k)
    · rw [e]; simp
    · rw [← e]; exact hg
  rw [h5, Nat.add_comm]
theorem byte_at (s : ByteArray) (i : Nat) (h : i < s.size) : s[i] = s.data.toList.getD i 0 := by
  have h' : i < s.data.toList.length := by rw [Array.length_toList]; exact h
  rw [List.getD_eq_getElem?_getD, List.getElem?_eq_getElem h']
  rfl
theorem get_step (s : ByteArray) (a wd o k G : Nat) (hG : getN s.data.toList a wd o k = G) (hg : G < 256 ^ k) (hk : k < 8) (h : a + plc k wd o < s.size) :
    bits .or .u64 (G : Int) (IntKind.u64.wrap (IntKind.u64.wrap ((s[a + plc k wd o].toNat : Nat) : Int) * 2 ^ (8 * k))) = ((getN s.data.toList a wd o (k + 1) : Nat) : Int) := by
  have hb : s[a + plc k wd o].toNat < 256 := UInt8.toNat_lt _
  rw [IntWalk.u64_in ((s[a + plc k wd o].toNat : Nat) : Int) ⟨by omega, by omega⟩, or_step G _ k hg hb hk, byte_at, getN, hG]

/-- a number of so many bytes, without a sign, and with one -/
def unsN (n wd : Nat) : Nat := n % 256 ^ wd
def sgnI (n wd : Nat) : Int := if unsN n wd < 256 ^ wd / 2 then (unsN n wd : Int) else (unsN n wd : Int) - ((256 ^ wd : Nat) : Int)
/-- an int's bits -/
def u64N (n : Int) : Nat := (n % 18446744073709551616).toNat
theorem u64N_lt (n : Int) : u64N n < 18446744073709551616 := by unfold u64N; omega
theorem u64N_cast (n : Int) : ((u64N n : Nat) : Int) = n % 18446744073709551616 := by unfold u64N; omega
theorem u64N_wrap (n : Int) : IntKind.u64.wrap n = ((u64N n : Nat) : Int) := by rw [IntKind.wrap_u64, u64N_cast]
/-- one of 1, 2, 4, 8 -/
def wideN (a : Int) : Nat := 2 ^ pickN a 4
theorem wideN_or (a : Int) : wideN a = 1 ∨ wideN a = 2 ∨ wideN a = 4 ∨ wideN a = 8 := by
  have h := pickN_lt a 4 (by omega)
  unfold wideN
  obtain h | h | h | h : pickN a 4 = 0 ∨ pickN a 4 = 1 ∨ pickN a 4 = 2 ∨ pickN a 4 = 3 := by omega
  all_goals simp [h]

theorem byteOf_mod (n wd k : Nat) (h : k < wd) : byteOf (n % 256 ^ wd) k = byteOf n k := by
  unfold byteOf
  have e : 256 ^ wd = 256 ^ k * 256 ^ (wd - k) := by rw [← Nat.pow_add]; congr 1; omega
  have e2 : 256 ^ (wd - k) = 256 * 256 ^ (wd - k - 1) := by rw [← Nat.pow_succ']; congr 1; omega
  rw [e, Nat.mod_mul_right_div_self, e2, Nat.mod_mul_right_mod]
theorem putB_mod (n wd o : Nat) : putB (n % 256 ^ wd) wd o = putB n wd o := by
  unfold putB
  apply List.map_congr_left
  intro j hj
  rw [byteOf_mod _ _ _ (plc_lt (by simpa using hj))]
theorem putB_at (n wd o k : Nat) (h : k < wd) : ((putB n wd o).getD (plc k wd o) 0).toNat = byteOf n k := by
  have hp := plc_lt (o := o) h
  have hb := byteOf_lt n k
  unfold putB
  rw [List.getD_eq_getElem?_getD, List.getElem?_map, List.getElem?_range hp]
  simp [plc_plc h]
  exact hb
theorem mod_pow_succ (n k : Nat) : n % 256 ^ (k + 1) = n % 256 ^ k + byteOf n k * 256 ^ k := by
  unfold byteOf
  rw [Nat.pow_succ, Nat.mod_mul, Nat.mul_comm (256 ^ k)]
theorem getN_put (l : List UInt8) (n wd o a : Nat) (h : ∀ j, j < wd → l.getD (a + j) 0 = (putB n wd o).getD j 0) : ∀ k, k ≤ wd → getN l a wd o k = n % 256 ^ k := by
  intro k
  induction k with
  | zero => intro _; simp [getN]; omega
  | succ k ih =>
    intro hk
    rw [getN, ih (by omega), h _ (plc_lt (by omega)), putB_at _ _ _ _ (by omega), mod_pow_succ]
theorem getN_mid (x y : List UInt8) (n wd o : Nat) : getN (x ++ putB n wd o ++ y) x.length wd o wd = unsN n wd := by
  unfold unsN
  apply getN_put _ _ _ _ _ _ _ (Nat.le_refl _)
  intro j hj
  rw [List.getD_eq_getElem?_getD, List.getD_eq_getElem?_getD, List.append_assoc, List.getElem?_append_right (by omega), List.getElem?_append_left (by rw [putB_length]; omega)]
  congr 2
  omega
theorem byteOf_low (g b k : Nat) (hg : g < 256 ^ k) (j : Nat) (h : j < k) : byteOf (g + b * 256 ^ k) j = byteOf g j := by
  rw [← byteOf_mod (g + b * 256 ^ k) k j h, Nat.add_mul_mod_self_right, byteOf_mod _ _ _ h]
theorem byteOf_top (g b k : Nat) (hg : g < 256 ^ k) (hb : b < 256) : byteOf (g + b * 256 ^ k) k = b := by
  unfold byteOf
  rw [Nat.add_mul_div_right _ _ (Nat.pow_pos (by decide)), Nat.div_eq_of_lt hg]; omega
theorem byteOf_getN (l : List UInt8) (a wd o : Nat) : ∀ m k, k < m → byteOf (getN l a wd o m) k = (l.getD (a + plc k wd o) 0).toNat := by
  intro m
  induction m with
  | zero => intro k h; omega
  | succ m ih =>
    intro k h
    rw [getN]
    by_cases e : k = m
    · subst e; exact byteOf_top _ _ _ (getN_lt _ _ _ _ _) (UInt8.toNat_lt _)
    · rw [byteOf_low _ _ _ (getN_lt _ _ _ _ _) _ (by omega)]; exact ih k (by omega)
theorem putB_getN (l : List UInt8) (wd o : Nat) (h : l.length = wd) : putB (getN l 0 wd o wd) wd o = l := by
  apply List.ext_getElem
  · simp [putB, h]
  · intro i h1 h2
    have hi : i < wd := by omega
    simp only [putB, List.getElem_map, List.getElem_range]
    rw [byteOf_getN _ _ _ _ _ _ (plc_lt hi), plc_plc hi, Nat.zero_add, List.getD_eq_getElem?_getD, List.getElem?_eq_getElem h2]
    simp
theorem putB_rev (n wd : Nat) : putB n wd 1 = (putB n wd 0).reverse := by
  apply List.ext_getElem
  · simp [putB]
  · intro i h1 h2
    have hi : i < wd := by simpa [putB] using h1
    simp [putB, plc]
theorem swap_put (n wd : Nat) : putB (getN (putB n wd 0) 0 wd 1 wd) wd 1 = putB n wd 0 := putB_getN _ _ _ (putB_length _ _ _)
theorem swap_swap (n wd : Nat) : getN (putB (getN (putB n wd 0) 0 wd 1 wd) wd 0) 0 wd 1 wd = unsN n wd := by
  have h : putB (getN (putB n wd 0) 0 wd 1 wd) wd 0 = putB n wd 1 := by
    have h1 := putB_rev (getN (putB n wd 0) 0 wd 1 wd) wd
    rw [swap_put] at h1
    have h2 := congrArg List.reverse h1
    rw [List.reverse_reverse] at h2
    rw [← h2, putB_rev]
  rw [h]
  exact getN_put _ n wd 1 0 (fun j _ => by rw [Nat.zero_add]) _ (Nat.le_refl _)
theorem get_mid (s1 s2 : ByteArray) (n wd o : Nat) : getN (s1 ++ bstr (putB n wd o) ++ s2).data.toList s1.size wd o wd = unsN n wd := by
  rw [append_data, append_data, bstr_data, ← data_length s1]
  exact getN_mid _ _ _ _ _
theorem unsN_lt (n wd : Nat) (h : n < 18446744073709551616) : unsN n wd < 18446744073709551616 := Nat.lt_of_le_of_lt (Nat.mod_le _ _) h
end Go.Proofs.Ytlpockgofejogaa
