/- Bits of signs: written, and read again. Plain. -/
import Derived.Test.YtenhblpegobbjaaPlainHuff5
namespace Go.Proofs.Ytenhblpegobbjaa
set_option linter.unusedVariables false
set_option linter.unusedSimpArgs false
namespace Huff
def b2n (b : Bool) : Nat := if b then 1 else 0
theorem b2n_le (b : Bool) : b2n b ≤ 1 := by cases b <;> decide
/-- the bits of a number of n bits, the greatest first -/
def bitsOf (n c : Nat) : List Bool := (List.range n).map fun j => decide (c / 2 ^ (n - 1 - j) % 2 = 1)
theorem bitsOf_length (n c : Nat) : (bitsOf n c).length = n := by simp [bitsOf]
theorem bitsOf_get (n c j : Nat) (h : j < n) : b2n ((bitsOf n c).getD j false) = c / 2 ^ (n - 1 - j) % 2 := by
  rw [List.getD_eq_getElem?_getD, List.getElem?_eq_getElem (by rw [bitsOf_length]; exact h)]
  simp only [bitsOf, List.getElem_map, List.getElem_range, Option.getD_some, b2n]
  have := Nat.mod_lt (c / 2 ^ (n - 1 - j)) (show 0 < 2 by omega)
  split
  · rename_i h; simp at h; omega
  · rename_i h; simp at h; omega
/-- eight bits as a byte -/
def byteV (f : Nat → Bool) : Nat := 128 * b2n (f 0) + 64 * b2n (f 1) + 32 * b2n (f 2) + 16 * b2n (f 3) + 8 * b2n (f 4) + 4 * b2n (f 5) + 2 * b2n (f 6) + b2n (f 7)
theorem byteV_lt (f : Nat → Bool) : byteV f < 256 := by
  unfold byteV
  have h0 := b2n_le (f 0); have h1 := b2n_le (f 1); have h2 := b2n_le (f 2); have h3 := b2n_le (f 3); have h4 := b2n_le (f 4); have h5 := b2n_le (f 5); have h6 := b2n_le (f 6); have h7 := b2n_le (f 7)
  omega
theorem byteV_bit (f : Nat → Bool) (t : Nat) (h : t < 8) : byteV f / 2 ^ (7 - t) % 2 = b2n (f t) := by
  unfold byteV
  have h0 := b2n_le (f 0); have h1 := b2n_le (f 1); have h2 := b2n_le (f 2); have h3 := b2n_le (f 3); have h4 := b2n_le (f 4); have h5 := b2n_le (f 5); have h6 := b2n_le (f 6); have h7 := b2n_le (f 7)
  match t, h with
  | 0, _ => simp only [Nat.reducePow, Nat.reduceSub]; omega
  | 1, _ => simp only [Nat.reducePow, Nat.reduceSub]; omega
  | 2, _ => simp only [Nat.reducePow, Nat.reduceSub]; omega
  | 3, _ => simp only [Nat.reducePow, Nat.reduceSub]; omega
  | 4, _ => simp only [Nat.reducePow, Nat.reduceSub]; omega
  | 5, _ => simp only [Nat.reducePow, Nat.reduceSub]; omega
  | 6, _ => simp only [Nat.reducePow, Nat.reduceSub]; omega
  | 7, _ => simp only [Nat.reducePow, Nat.reduceSub]; omega
  | k + 8, h => omega
theorem byteV_congr (f g : Nat → Bool) (h : ∀ t, t < 8 → f t = g t) : byteV f = byteV g := by
  unfold byteV
  rw [h 0 (by omega), h 1 (by omega), h 2 (by omega), h 3 (by omega), h 4 (by omega), h 5 (by omega), h 6 (by omega), h 7 (by omega)]
theorem byteV_set (f g : Nat → Bool) (b : Bool) (t0 : Nat) (ht : t0 < 8) (h : ∀ t, t < 8 → t ≠ t0 → f t = g t) (h1 : f t0 = b) (h2 : g t0 = false) : byteV f = byteV g + b2n b * 2 ^ (7 - t0) := by
  match t0, ht with
  | 0, _ => unfold byteV; rw [h 1 (by omega) (by omega), h 2 (by omega) (by omega), h 3 (by omega) (by omega), h 4 (by omega) (by omega), h 5 (by omega) (by omega), h 6 (by omega) (by omega), h 7 (by omega) (by omega), h1, h2]; simp only [Nat.reducePow, Nat.reduceSub, b2n, Bool.false_eq_true, if_false]; omega
  | 1, _ => unfold byteV; rw [h 0 (by omega) (by omega), h 2 (by omega) (by omega), h 3 (by omega) (by omega), h 4 (by omega) (by omega), h 5 (by omega) (by omega), h 6 (by omega) (by omega), h 7 (by omega) (by omega), h1, h2]; simp only [Nat.reducePow, Nat.reduceSub, b2n, Bool.false_eq_true, if_false]; omega
  | 2, _ => unfold byteV; rw [h 0 (by omega) (by omega), h 1 (by omega) (by omega), h 3 (by omega) (by omega), h 4 (by omega) (by omega), h 5 (by omega) (by omega), h 6 (by omega) (by omega), h 7 (by omega) (by omega), h1, h2]; simp only [Nat.reducePow, Nat.reduceSub, b2n, Bool.false_eq_true, if_false]; omega
  | 3, _ => unfold byteV; rw [h 0 (by omega) (by omega), h 1 (by omega) (by omega), h 2 (by omega) (by omega), h 4 (by omega) (by omega), h 5 (by omega) (by omega), h 6 (by omega) (by omega), h 7 (by omega) (by omega), h1, h2]; simp only [Nat.reducePow, Nat.reduceSub, b2n, Bool.false_eq_true, if_false]; omega
  | 4, _ => unfold byteV; rw [h 0 (by omega) (by omega), h 1 (by omega) (by omega), h 2 (by omega) (by omega), h 3 (by omega) (by omega), h 5 (by omega) (by omega), h 6 (by omega) (by omega), h 7 (by omega) (by omega), h1, h2]; simp only [Nat.reducePow, Nat.reduceSub, b2n, Bool.false_eq_true, if_false]; omega
  | 5, _ => unfold byteV; rw [h 0 (by omega) (by omega), h 1 (by omega) (by omega), h 2 (by omega) (by omega), h 3 (by omega) (by omega), h 4 (by omega) (by omega), h 6 (by omega) (by omega), h 7 (by omega) (by omega), h1, h2]; simp only [Nat.reducePow, Nat.reduceSub, b2n, Bool.false_eq_true, if_false]; omega
  | 6, _ => unfold byteV; rw [h 0 (by omega) (by omega), h 1 (by omega) (by omega), h 2 (by omega) (by omega), h 3 (by omega) (by omega), h 4 (by omega) (by omega), h 5 (by omega) (by omega), h 7 (by omega) (by omega), h1, h2]; simp only [Nat.reducePow, Nat.reduceSub, b2n, Bool.false_eq_true, if_false]; omega
  | 7, _ => unfold byteV; rw [h 0 (by omega) (by omega), h 1 (by omega) (by omega), h 2 (by omega) (by omega), h 3 (by omega) (by omega), h 4 (by omega) (by omega), h 5 (by omega) (by omega), h 6 (by omega) (by omega), h1, h2]; simp only [Nat.reducePow, Nat.reduceSub, b2n, Bool.false_eq_true, if_false]; omega
  | k + 8, h => omega
theorem byteV_low (g : Nat → Bool) (t0 : Nat) (ht : t0 < 8) (h : ∀ t, t0 ≤ t → t < 8 → g t = false) : byteV g % 2 ^ (8 - t0) = 0 := by
  match t0, ht with
  | 0, _ => unfold byteV; rw [h 0 (by omega) (by omega), h 1 (by omega) (by omega), h 2 (by omega) (by omega), h 3 (by omega) (by omega), h 4 (by omega) (by omega), h 5 (by omega) (by omega), h 6 (by omega) (by omega), h 7 (by omega) (by omega)]; simp only [Nat.reducePow, Nat.reduceSub, b2n, Bool.false_eq_true, if_false]; try omega
  | 1, _ => unfold byteV; rw [h 1 (by omega) (by omega), h 2 (by omega) (by omega), h 3 (by omega) (by omega), h 4 (by omega) (by omega), h 5 (by omega) (by omega), h 6 (by omega) (by omega), h 7 (by omega) (by omega)]; simp only [Nat.reducePow, Nat.reduceSub, b2n, Bool.false_eq_true, if_false]; omega
  | 2, _ => unfold byteV; rw [h 2 (by omega) (by omega), h 3 (by omega) (by omega), h 4 (by omega) (by omega), h 5 (by omega) (by omega), h 6 (by omega) (by omega), h 7 (by omega) (by omega)]; simp only [Nat.reducePow, Nat.reduceSub, b2n, Bool.false_eq_true, if_false]; omega
  | 3, _ => unfold byteV; rw [h 3 (by omega) (by omega), h 4 (by omega) (by omega), h 5 (by omega) (by omega), h 6 (by omega) (by omega), h 7 (by omega) (by omega)]; simp only [Nat.reducePow, Nat.reduceSub, b2n, Bool.false_eq_true, if_false]; omega
  | 4, _ => unfold byteV; rw [h 4 (by omega) (by omega), h 5 (by omega) (by omega), h 6 (by omega) (by omega), h 7 (by omega) (by omega)]; simp only [Nat.reducePow, Nat.reduceSub, b2n, Bool.false_eq_true, if_false]; omega
  | 5, _ => unfold byteV; rw [h 5 (by omega) (by omega), h 6 (by omega) (by omega), h 7 (by omega) (by omega)]; simp only [Nat.reducePow, Nat.reduceSub, b2n, Bool.false_eq_true, if_false]; omega
  | 6, _ => unfold byteV; rw [h 6 (by omega) (by omega), h 7 (by omega) (by omega)]; simp only [Nat.reducePow, Nat.reduceSub, b2n, Bool.false_eq_true, if_false]; omega
  | 7, _ => unfold byteV; rw [h 7 (by omega) (by omega)]; simp only [Nat.reducePow, Nat.reduceSub, b2n, Bool.false_eq_true, if_false]; omega
  | k + 8, h => omega
/-- bits as bytes, with noughts at the end -/
def packBits (l : List Bool) : List Nat := (List.range ((l.length + 7) / 8)).map fun j => byteV fun t => l.getD (8 * j + t) false
theorem packBits_length (l : List Bool) : (packBits l).length = (l.length + 7) / 8 := by simp [packBits]
theorem packBits_get (l : List Bool) (j : Nat) (h : j < (l.length + 7) / 8) : (packBits l).getD j 0 = byteV fun t => l.getD (8 * j + t) false := by
  rw [List.getD_eq_getElem?_getD, List.getElem?_eq_getElem (by rw [packBits_length]; exact h)]
  simp [packBits]
def bitAt (p : List Nat) (i : Nat) : Nat := p.getD (i / 8) 0 / 2 ^ (7 - i % 8) % 2
theorem bitAt_pack (l : List Bool) (i : Nat) (h : i < l.length) : bitAt (packBits l) i = b2n (l.getD i false) := by
  unfold bitAt
  rw [packBits_get l _ (by omega), byteV_bit _ _ (by omega)]
  congr 2; omega
theorem bitAt_behind (hd p : List Nat) (i : Nat) : bitAt (hd ++ p) (8 * hd.length + i) = bitAt p i := by
  unfold bitAt
  have e1 : (8 * hd.length + i) / 8 = hd.length + i / 8 := by omega
  have e2 : (8 * hd.length + i) % 8 = i % 8 := by omega
  rw [e1, e2]
  congr 2
  rw [List.getD_eq_getElem?_getD, List.getD_eq_getElem?_getD, List.getElem?_append_right (by omega)]
  congr 2; omega
theorem getD_snoc_ne (l : List Bool) (b : Bool) (i : Nat) (hi : i ≠ l.length) : (l ++ [b]).getD i false = l.getD i false := by
  rw [List.getD_eq_getElem?_getD, List.getD_eq_getElem?_getD]
  rcases Nat.lt_or_ge i l.length with h1 | h1
  · rw [List.getElem?_append_left h1]
  · rw [List.getElem?_eq_none (by rw [List.length_append, List.length_singleton]; omega), List.getElem?_eq_none h1]
theorem getD_snoc_eq (l : List Bool) (b : Bool) : (l ++ [b]).getD l.length false = b := by
  rw [List.getD_eq_getElem?_getD, List.getElem?_append_right (Nat.le_refl _)]; simp
theorem getD_none (l : List Bool) (i : Nat) (hi : l.length ≤ i) : l.getD i false = false := by rw [List.getD_eq_getElem?_getD, List.getElem?_eq_none hi]; rfl
/-- one bit more: a new byte -/
theorem packBits_new (l : List Bool) (b : Bool) (h : l.length % 8 = 0) : packBits (l ++ [b]) = packBits l ++ [b2n b * 128] := by
  unfold packBits
  have e1 : ((l ++ [b]).length + 7) / 8 = (l.length + 7) / 8 + 1 := by rw [List.length_append, List.length_singleton]; omega
  rw [e1, List.range_succ, List.map_append, List.map_singleton]
  congr 1
  · apply List.map_congr_left
    intro j hj
    rw [List.mem_range] at hj
    exact byteV_congr _ _ fun t ht => getD_snoc_ne l b _ (by omega)
  · have e2 : 8 * ((l.length + 7) / 8) = l.length := by omega
    have e3 := byteV_set (fun t => (l ++ [b]).getD (8 * ((l.length + 7) / 8) + t) false) (fun _ => false) b 0 (by omega) (fun t ht hne => by
      rw [e2, getD_snoc_ne l b _ (by omega), getD_none l _ (by omega)]) (by rw [e2, Nat.add_zero]; exact getD_snoc_eq l b) rfl
    rw [e3]
    have e4 : byteV (fun _ => false) = 0 := rfl
    rw [e4]
    simp only [Nat.reducePow, Nat.reduceSub]
    rw [Nat.zero_add]
/-- one bit more in the last byte -/
theorem packBits_in (l : List Bool) (b : Bool) (h : l.length % 8 ≠ 0) :
    packBits (l ++ [b]) = (packBits l).set ((packBits l).length - 1) ((packBits l).getD ((packBits l).length - 1) 0 + b2n b * 2 ^ (7 - l.length % 8)) ∧ (packBits l).getD ((packBits l).length - 1) 0 % 2 ^ (8 - l.length % 8) = 0 := by
  have e1 : ((l ++ [b]).length + 7) / 8 = (l.length + 7) / 8 := by rw [List.length_append, List.length_singleton]; omega
  obtain ⟨q, t, hq, ht0, ht⟩ : ∃ q t, l.length = 8 * q + t ∧ 0 < t ∧ t < 8 := ⟨l.length / 8, l.length % 8, by omega, by omega, by omega⟩
  have e3 : (l.length + 7) / 8 = q + 1 := by omega
  have e4 : l.length % 8 = t := by omega
  rw [packBits_length, e3, Nat.add_sub_cancel, e4]
  have hlast : (packBits l).getD q 0 = byteV fun t => l.getD (8 * q + t) false := packBits_get l q (by omega)
  constructor
  · apply List.ext_getElem
    · rw [packBits_length, List.length_set, packBits_length, e1]
    · intro j h1 h2
      rw [packBits_length, e1, e3] at h1
      have hj : (packBits (l ++ [b]))[j] = byteV fun t => (l ++ [b]).getD (8 * j + t) false := by simp [packBits]
      rw [hj, List.getElem_set]
      by_cases hjq : q = j
      · subst hjq
        rw [if_pos rfl, hlast]
        exact byteV_set _ _ b t ht (fun u hu hne => getD_snoc_ne l b _ (by omega)) (by rw [← hq]; exact getD_snoc_eq l b) (getD_none l _ (by omega))
      · rw [if_neg hjq]
        have hj2 : (packBits l)[j]'(by rw [packBits_length]; omega) = byteV fun t => l.getD (8 * j + t) false := by simp [packBits]
        rw [hj2]
        exact byteV_congr _ _ fun u hu => getD_snoc_ne l b _ (by omega)
  · rw [hlast]
    exact byteV_low _ t ht fun u hu hu2 => getD_none l _ (by omega)
end Huff
end Go.Proofs.Ytenhblpegobbjaa
