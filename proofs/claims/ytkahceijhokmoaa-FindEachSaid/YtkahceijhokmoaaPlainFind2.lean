/- Fine's and Wilf's law; and places by bits: plain laws. No program in sight. -/
import Derived.Test.YtkahceijhokmoaaPlainFind
namespace Go.Proofs.Ytkahceijhokmoaa
set_option linter.unusedVariables false
set_option linter.unusedSimpArgs false
namespace Kmp
/-- f goes on, of n, as it did d ahead -/
def Per (f : Nat → UInt8) (n d : Nat) : Prop := ∀ i, i + d < n → f i = f (i + d)
theorem per_mul {f : Nat → UInt8} {n g : Nat} (h : Per f n g) : ∀ (k i : Nat), i + k * g < n → f i = f (i + k * g)
  | 0, i, _ => by simp
  | k + 1, i, hi => by
    have e : (k + 1) * g = k * g + g := by rw [Nat.succ_mul]
    rw [e] at hi ⊢
    rw [per_mul h k i (by omega), ← Nat.add_assoc]
    exact h _ (by omega)
theorem per_dvd {f : Nat → UInt8} {n g d : Nat} (h : Per f n g) (hd : g ∣ d) : Per f n d := by
  obtain ⟨k, rfl⟩ := hd
  intro i hi
  rw [Nat.mul_comm] at hi ⊢
  exact per_mul h k i hi
theorem fine_wilf_step (f : Nat → UInt8) (N a b n : Nat) (hN : a + b ≤ N + 1) (ha : 1 ≤ a) (hlt : a < b) (pa : Per f n a) (pb : Per f n b) (hn : a + b ≤ n + Nat.gcd a b)
    (ih : ∀ n', Per f n' a → Per f n' (b - a) → a + (b - a) ≤ n' + Nat.gcd a (b - a) → Per f n' (Nat.gcd a (b - a))) : Per f n (Nat.gcd a b) := by
  have hg : Nat.gcd a (b - a) = Nat.gcd a b := Nat.gcd_sub_self_right (by omega)
  rw [hg] at ih
  have hga : Nat.gcd a b ∣ a := Nat.gcd_dvd_left _ _
  have hgb : Nat.gcd a b ∣ b := Nat.gcd_dvd_right _ _
  have hgp : 1 ≤ Nat.gcd a b := Nat.gcd_pos_of_pos_left _ ha
  have hgle : Nat.gcd a b ≤ a := Nat.le_of_dvd ha hga
  have hgd : Nat.gcd a b ∣ b - a := Nat.dvd_sub hgb hga
  have hgd2 : Nat.gcd a b ≤ b - a := Nat.le_of_dvd (by omega) hgd
  generalize hG : Nat.gcd a b = g at *
  have hp := ih (n - a) (fun i hi => pa i (by omega)) (fun i hi => by
    have h1 := pb i (by omega)
    have h2 := pa (i + (b - a)) (by omega)
    rw [show i + (b - a) + a = i + b from by omega] at h2
    rw [h1, h2]) (by omega)
  intro i hi
  induction i using Nat.strongRecOn with
  | ind i ihi =>
    by_cases h1 : i + g < n - a
    · exact hp i h1
    · have h2 : a ≤ i + g := by omega
      have h3 : f (i + g - a) = f (i + g) := by
        have := pa (i + g - a) (by omega)
        rwa [show i + g - a + a = i + g from by omega] at this
      by_cases h4 : a ≤ i
      · have h5 : f (i - a) = f i := by
          have := pa (i - a) (by omega)
          rwa [show i - a + a = i from by omega] at this
        have h6 := ihi (i - a) (by omega) (by omega)
        rw [show i - a + g = i + g - a from by omega] at h6
        rw [← h5, h6, h3]
      · have hd : g ∣ a - g := Nat.dvd_sub hga (Nat.dvd_refl g)
        have := per_dvd hp hd (i + g - a) (by omega)
        rw [show i + g - a + (a - g) = i from by omega] at this
        rw [← this, h3]
theorem fine_wilf (f : Nat → UInt8) : ∀ (N a b n : Nat), a + b ≤ N → 1 ≤ a → 1 ≤ b → Per f n a → Per f n b → a + b ≤ n + Nat.gcd a b → Per f n (Nat.gcd a b)
  | 0, a, b, n, hN, ha, _, _, _, _ => by omega
  | N + 1, a, b, n, hN, ha, hb, pa, pb, hn => by
    rcases Nat.lt_trichotomy a b with hlt | heq | hgt
    · exact fine_wilf_step f N a b n hN ha hlt pa pb hn (fun n' => fine_wilf f N a (b - a) n' (by omega) ha (by omega))
    · subst heq; rw [Nat.gcd_self]; exact pa
    · rw [Nat.gcd_comm] at hn ⊢
      exact fine_wilf_step f N b a n (by omega) hb hgt pb pa (by omega) (fun n' => fine_wilf f N b (a - b) n' (by omega) hb (by omega))
/-- a border is a period -/
theorem suf_per (p : List UInt8) (k : Nat) (hk : k < p.length) : Suf p (p.drop 1) k ↔ Per (fun i => p.getD i 0) p.length (p.length - k) := by
  have e1 : Suf p (p.drop 1) k ↔ p.take k = p.drop (p.length - k) := by
    have := suf_drop (p := p) (j := k) (k := p.length) (Nat.le_refl _) hk
    rw [List.take_length] at this
    rw [← this]
    unfold Suf
    rw [List.suffix_iff_eq_drop, List.length_take, Nat.min_eq_left (by omega)]
    exact ⟨fun h => h.2, fun h => ⟨by omega, h⟩⟩
  rw [e1]
  constructor
  · intro h i hi
    have h1 : (p.take k)[i]? = (p.drop (p.length - k))[i]? := by rw [h]
    rw [List.getElem?_take, if_pos (by omega), List.getElem?_drop] at h1
    simp only [List.getD_eq_getElem?_getD]
    rw [h1, Nat.add_comm]
  · intro h
    apply List.ext_getElem?
    intro i
    by_cases hi : i < k
    · have h1 := h i (by omega)
      simp only [List.getD_eq_getElem?_getD] at h1
      rw [List.getElem?_take, if_pos hi, List.getElem?_drop]
      rw [List.getElem?_eq_getElem (by omega), List.getElem?_eq_getElem (show i + (p.length - k) < p.length by omega)] at h1
      simp only [Option.getD_some] at h1
      rw [List.getElem?_eq_getElem (by omega), List.getElem?_eq_getElem (show p.length - k + i < p.length by omega), h1]
      congr 2; omega
    · rw [List.getElem?_eq_none (by rw [List.length_take]; omega), List.getElem?_eq_none (by rw [List.length_drop]; omega)]
/-- the borders of a beginning, one behind the other -/
def chn (p : List UInt8) : Nat → Nat → List Nat
  | 0, _ => []
  | F + 1, k => if k = 0 then [] else lng p ((p.take k).drop 1) :: chn p F (lng p ((p.take k).drop 1))
theorem next_lt (p : List UInt8) (k : Nat) (hk : 1 ≤ k) : lng p ((p.take k).drop 1) < k := by
  have := lng_len p ((p.take k).drop 1)
  rw [List.length_drop, List.length_take] at this; omega
theorem chn_all (p : List UInt8) : ∀ (F k j : Nat), k ≤ F → k ≤ p.length → j < k → Suf p ((p.take k).drop 1) j → j ∈ chn p F k
  | 0, k, j, hF, _, hj, _ => by omega
  | F + 1, k, j, hF, hk, hj, hs => by
    unfold chn
    rw [if_neg (by omega)]
    have hlt := next_lt p k (by omega)
    have hm := lng_max hs
    rcases Nat.lt_or_ge j (lng p ((p.take k).drop 1)) with h | h
    · have hsuf := lng_suf p ((p.take k).drop 1)
      refine List.mem_cons_of_mem _ (chn_all p F _ j (by omega) hsuf.1 h ?_)
      exact (suf_drop hsuf.1 h).1 (suf_of_suf hsuf hs (by omega))
    · have : j = lng p ((p.take k).drop 1) := by omega
      rw [← this]; simp
theorem chn_suf (p : List UInt8) : ∀ (F k : Nat), k ≤ p.length → (∀ j ∈ chn p F k, j < k ∧ Suf p ((p.take k).drop 1) j)
  | 0, k, _, j, hj => by simp [chn] at hj
  | F + 1, k, hk, j, hj => by
    unfold chn at hj
    by_cases h0 : k = 0
    · simp [h0] at hj
    · rw [if_neg h0] at hj
      have hlt := next_lt p k (by omega)
      have hsuf := lng_suf p ((p.take k).drop 1)
      rcases List.mem_cons.1 hj with rfl | hj
      · exact ⟨hlt, hsuf⟩
      · obtain ⟨h1, h2⟩ := chn_suf p F _ hsuf.1 j hj
        exact ⟨by omega, suf_trans hsuf ((suf_drop hsuf.1 h1).2 h2)⟩
theorem chn_length (p : List UInt8) : ∀ (F k : Nat), (chn p F k).length ≤ k
  | 0, k => by simp [chn]
  | F + 1, k => by
    unfold chn
    split
    · simp
    · have := chn_length p F (lng p ((p.take k).drop 1))
      have := next_lt p k (by omega)
      simp only [List.length_cons]; omega
theorem chn_fuel (p : List UInt8) : ∀ (F k : Nat), k ≤ F → chn p F k = chn p k k
  | 0, k, h => by have : k = 0 := by omega
                  subst this; rfl
  | F + 1, 0, h => by simp [chn]
  | F + 1, k + 1, h => by
    have hlt := next_lt p (k + 1) (by omega)
    simp only [chn, Nat.succ_ne_zero, if_false]
    rw [chn_fuel p F _ (by omega), chn_fuel p k _ (by omega)]
/-- the periods of a text -/
def periods (p : List UInt8) : List Nat := (chn p p.length p.length).map (p.length - ·)
theorem periods_wilf (p : List UInt8) (a b : Nat) (ha : a ∈ periods p) (hb : b ∈ periods p) (h : a + b ≤ p.length + Nat.gcd a b) : Nat.gcd a b ∈ periods p := by
  have key : ∀ a, a ∈ periods p → 1 ≤ a ∧ a ≤ p.length ∧ Per (fun i => p.getD i 0) p.length a := by
    intro a ha
    obtain ⟨k, hk, rfl⟩ := List.mem_map.1 ha
    obtain ⟨h1, h2⟩ := chn_suf p _ _ (Nat.le_refl _) k hk
    rw [List.take_length] at h2
    exact ⟨by omega, by omega, (suf_per p k h1).1 h2⟩
  obtain ⟨a1, a2, a3⟩ := key a ha
  obtain ⟨b1, b2, b3⟩ := key b hb
  have hg := fine_wilf _ (a + b) a b p.length (Nat.le_refl _) a1 b1 a3 b3 h
  have hgp : 1 ≤ Nat.gcd a b := Nat.gcd_pos_of_pos_left _ a1
  have hgle : Nat.gcd a b ≤ a := Nat.le_of_dvd a1 (Nat.gcd_dvd_left _ _)
  refine List.mem_map.2 ⟨p.length - Nat.gcd a b, ?_, by omega⟩
  refine chn_all p _ _ _ (Nat.le_refl _) (Nat.le_refl _) (by omega) ?_
  rw [List.take_length, suf_per p _ (by omega)]
  rwa [show p.length - (p.length - Nat.gcd a b) = Nat.gcd a b from by omega]
theorem gcd_step (g r : Nat) (hr : 0 < r) : Nat.gcd r (g % r) = Nat.gcd g r := by
  rw [Nat.gcd_comm g r, Nat.gcd_rec r g, Nat.gcd_comm]
end Kmp
/-! ### by bits -/
namespace Like
/-- a half byte, or any -/
def half (a : Int) (x : Nat) : Bool := decide (a < 0) || decide (a = (x : Int))
/-- the k-th byte of a mask -/
def fits (m : List Int) (k : Nat) (c : UInt8) : Bool := half (m.getD (2 * k) 0) (c.toNat / 16) && half (m.getD (2 * k + 1) 0) (c.toNat % 16)
/-- which places of a mask a byte may stand at -/
def may (m : List Int) : Nat → UInt8 → Nat
  | 0, _ => 0
  | n + 1, c => if fits m n c then may m n c ||| 2 ^ n else may m n c
theorem may_lt (m : List Int) (c : UInt8) : ∀ n, may m n c < 2 ^ n
  | 0 => by simp [may]
  | n + 1 => by
    have h := may_lt m c n
    unfold may
    split
    · exact Nat.or_lt_two_pow (by rw [Nat.pow_succ]; omega) (Nat.pow_lt_pow_right (by omega) (by omega))
    · rw [Nat.pow_succ]; omega
theorem may_bit (m : List Int) (c : UInt8) : ∀ n k, (may m n c).testBit k = (decide (k < n) && fits m k c)
  | 0, k => by simp [may]
  | n + 1, k => by
    unfold may
    have ih := may_bit m c n k
    split
    · rename_i hf
      rw [Nat.testBit_or, ih, Nat.testBit_two_pow]
      rcases Nat.lt_trichotomy k n with h | h | h
      · have : ¬ n = k := by omega
        simp [h, this, show k < n + 1 from by omega]
      · subst h; simp [hf]
      · have : ¬ n = k := by omega
        have h2 : ¬ k < n := by omega
        have h3 : ¬ k < n + 1 := by omega
        simp [this, h2, h3]
    · rename_i hf
      rw [ih]
      rcases Nat.lt_trichotomy k n with h | h | h
      · simp [h, show k < n + 1 from by omega]
      · subst h; simp [hf]
      · simp [show ¬ k < n from by omega, show ¬ k < n + 1 from by omega]
/-- the mask begins at j -/
def stands (m : List Int) (n : Nat) (s : List UInt8) (j : Nat) : Bool := (List.range n).all fun k => fits m k (s.getD (j + k) 0)
/-- what is open behind i bytes -/
def state (m : List Int) (n : Nat) (s : List UInt8) : Nat → Nat
  | 0 => 0
  | i + 1 => ((state m n s i * 2 % 18446744073709551616) ||| 1) &&& may m n (s.getD i 0)
theorem state_lt (m : List Int) (n : Nat) (s : List UInt8) (i : Nat) (hn : n ≤ 64) : state m n s i < 18446744073709551616 := by
  cases i with
  | zero => simp [state]
  | succ i =>
    unfold state
    refine Nat.lt_of_le_of_lt Nat.and_le_right ?_
    have := may_lt m (s.getD i 0) n
    have h2 : 2 ^ n ≤ 2 ^ 64 := Nat.pow_le_pow_right (by omega) hn
    have h3 : (2 : Nat) ^ 64 = 18446744073709551616 := by decide
    omega
theorem state_bit (m : List Int) (n : Nat) (s : List UInt8) (hn : n ≤ 64) : ∀ i k, k < n →
    (state m n s i).testBit k = (decide (k < i) && (List.range (k + 1)).all fun q => fits m q (s.getD (i - 1 - k + q) 0))
  | 0, k, hk => by simp [state]
  | i + 1, k, hk => by
    unfold state
    rw [Nat.testBit_and, may_bit, Nat.testBit_or]
    have h3 : (18446744073709551616 : Nat) = 2 ^ 64 := by decide
    rw [h3, Nat.testBit_mod_two_pow]
    have hk64 : k < 64 := by omega
    cases k with
    | zero =>
      simp [hk, Nat.testBit_zero, List.range_succ]
    | succ k =>
      have ih := state_bit m n s hn i k (by omega)
      have e1 : (state m n s i * 2).testBit (k + 1) = (state m n s i).testBit k := by
        rw [Nat.testBit_succ]; congr 1; omega
      have e2 : Nat.testBit 1 (k + 1) = false := by rw [Nat.testBit_succ]; simp
      rw [e1, e2, ih]
      have e3 : i + 1 - 1 - (k + 1) = i - 1 - k := by omega
      rw [e3]
      conv => rhs; rw [show k + 1 + 1 = (k + 1) + 1 from rfl, List.range_succ, List.all_append]
      by_cases hik : k < i
      · have e4 : i - 1 - k + (k + 1) = i := by omega
        simp [hk64, hk, hik, e4]
      · simp [hik]
/-- where a mask stands: each place at which it ends -/
def ends (m : List Int) (n : Nat) (s : List UInt8) (i : Nat) : List Nat := (List.range i).filter fun q => (state m n s (q + 1)).testBit (n - 1)
def occ (m : List Int) (n : Nat) (s : List UInt8) (i : Nat) : List Nat := (ends m n s i).map fun q => q + 1 - n
theorem occ_yes (m : List Int) (n : Nat) (s : List UInt8) (i : Nat) (h : (state m n s (i + 1)).testBit (n - 1) = true) : occ m n s (i + 1) = occ m n s i ++ [i + 1 - n] := by
  simp [occ, ends, List.range_succ, List.filter_append, h]
theorem occ_no (m : List Int) (n : Nat) (s : List UInt8) (i : Nat) (h : (state m n s (i + 1)).testBit (n - 1) = false) : occ m n s (i + 1) = occ m n s i := by
  simp [occ, ends, List.range_succ, List.filter_append, h]
theorem occ_length (m : List Int) (n : Nat) (s : List UInt8) (i : Nat) : (occ m n s i).length ≤ i := by
  simp only [occ, ends, List.length_map]
  exact Nat.le_trans (List.length_filter_le _ _) (by simp)
theorem mem_occ (m : List Int) (n : Nat) (s : List UInt8) (h1 : 1 ≤ n) (hn : n ≤ 64) (j : Nat) : j ∈ occ m n s s.length ↔ j + n ≤ s.length ∧ stands m n s j = true := by
  have key : ∀ q, (state m n s (q + 1)).testBit (n - 1) = true ↔ n ≤ q + 1 ∧ stands m n s (q + 1 - n) = true := by
    intro q
    rw [state_bit m n s hn (q + 1) (n - 1) (by omega), show n - 1 + 1 = n from by omega, show q + 1 - 1 - (n - 1) = q + 1 - n from by omega]
    simp only [Bool.and_eq_true, decide_eq_true_eq, stands]
    constructor
    · rintro ⟨a, b⟩; exact ⟨by omega, b⟩
    · rintro ⟨a, b⟩; exact ⟨by omega, b⟩
  simp only [occ, ends, List.mem_map, List.mem_filter, List.mem_range]
  constructor
  · rintro ⟨q, ⟨hq, hb⟩, rfl⟩
    obtain ⟨a, b⟩ := (key q).1 hb
    exact ⟨by omega, b⟩
  · rintro ⟨a, b⟩
    refine ⟨j + n - 1, ⟨by omega, (key _).2 ⟨by omega, ?_⟩⟩, by omega⟩
    rwa [show j + n - 1 + 1 - n = j from by omega]
theorem occ_sorted (m : List Int) (n : Nat) (s : List UInt8) (i : Nat) (h1 : 1 ≤ n) (hn : n ≤ 64) : (occ m n s i).Pairwise (· < ·) := by
  unfold occ ends
  rw [List.pairwise_map]
  have h := (List.pairwise_lt_range (n := i)).filter fun q => (state m n s (q + 1)).testBit (n - 1)
  refine List.Pairwise.imp_of_mem (R := (· < ·)) ?_ h
  intro a b ha hb hab
  have h1' := (List.mem_filter.1 ha).2
  have h2' := (List.mem_filter.1 hb).2
  rw [state_bit m n s hn _ (n - 1) (by omega)] at h1' h2'
  simp only [Bool.and_eq_true, decide_eq_true_eq] at h1' h2'
  omega
/-- the mask of a text of bytes -/
def maskOf : List UInt8 → List Int
  | [] => []
  | c :: l => ((c.toNat / 16 : Nat) : Int) :: ((c.toNat % 16 : Nat) : Int) :: maskOf l
theorem maskOf_length : ∀ l : List UInt8, (maskOf l).length = 2 * l.length
  | [] => rfl
  | c :: l => by simp [maskOf, maskOf_length l]; omega
theorem maskOf_append : ∀ a b : List UInt8, maskOf (a ++ b) = maskOf a ++ maskOf b
  | [], b => rfl
  | c :: a, b => by simp [maskOf, maskOf_append a b]
theorem maskOf_get : ∀ (l : List UInt8) (k : Nat), k < l.length → (maskOf l).getD (2 * k) 0 = (((l.getD k 0).toNat / 16 : Nat) : Int) ∧ (maskOf l).getD (2 * k + 1) 0 = (((l.getD k 0).toNat % 16 : Nat) : Int)
  | [], k, h => by simp at h
  | c :: l, 0, _ => by simp [maskOf]
  | c :: l, k + 1, h => by
    have := maskOf_get l k (by simpa using h)
    rw [show 2 * (k + 1) = 2 * k + 1 + 1 from by omega]
    simp only [maskOf, List.getD_cons_succ]
    exact this
theorem fits_maskOf (l : List UInt8) (k : Nat) (h : k < l.length) (c : UInt8) : fits (maskOf l) k c = decide (c = l.getD k 0) := by
  obtain ⟨h1, h2⟩ := maskOf_get l k h
  unfold fits half
  rw [h1, h2]
  generalize l.getD k 0 = d
  have e : (c = d) ↔ (c.toNat = d.toNat) := ⟨fun h => by rw [h], fun h => UInt8.toNat_inj.1 h⟩
  rw [Bool.eq_iff_iff]
  simp only [Bool.and_eq_true, Bool.or_eq_true, decide_eq_true_eq]
  rw [e]
  omega
theorem stands_maskOf (p s : List UInt8) (j : Nat) (h : j + p.length ≤ s.length) : stands (maskOf p) p.length s j = true ↔ Kmp.At s p j := by
  unfold stands Kmp.At
  rw [List.all_eq_true, List.prefix_iff_eq_take]
  constructor
  · intro hh
    apply List.ext_getElem?
    intro k
    by_cases hk : k < p.length
    · have h1 := hh k (List.mem_range.2 hk)
      rw [fits_maskOf p k hk, decide_eq_true_eq] at h1
      rw [List.getElem?_take, if_pos hk, List.getElem?_drop]
      rw [List.getD_eq_getElem?_getD, List.getD_eq_getElem?_getD, List.getElem?_eq_getElem hk, List.getElem?_eq_getElem (show j + k < s.length by omega)] at h1
      rw [List.getElem?_eq_getElem hk, List.getElem?_eq_getElem (show j + k < s.length by omega)]
      simpa using h1.symm
    · rw [List.getElem?_eq_none (by omega), List.getElem?_eq_none (by rw [List.length_take, List.length_drop]; omega)]
  · intro hh k hk
    have hk := List.mem_range.1 hk
    rw [fits_maskOf p k hk, decide_eq_true_eq]
    have h1 : p[k]? = ((s.drop j).take p.length)[k]? := by rw [← hh]
    rw [List.getElem?_take, if_pos hk, List.getElem?_drop] at h1
    rw [List.getD_eq_getElem?_getD, List.getD_eq_getElem?_getD, h1]
theorem occ_maskOf (p s : List UInt8) (h1 : 1 ≤ p.length) (hn : p.length ≤ 64) : occ (maskOf p) p.length s s.length = Kmp.occ s p s.length := by
  refine Kmp.sorted_ext (occ_sorted _ _ _ _ h1 hn) (Kmp.occ_sorted _ _ _) fun x => ?_
  rw [mem_occ _ _ _ h1 hn, Kmp.mem_occ_at s p h1]
  constructor
  · rintro ⟨a, b⟩; exact (stands_maskOf p s x a).1 b
  · intro h
    have hle : x + p.length ≤ s.length := by
      rcases (Kmp.at_iff s p x).1 h with h | ⟨rfl, _⟩
      · exact h.1
      · simp at h1
    exact ⟨hle, (stands_maskOf p s x hle).2 h⟩
theorem fits_open (m : List Int) (q k : Nat) (c : UInt8) (hq : q < m.length) (h : fits m k c = true) : fits (m.set q (-1)) k c = true := by
  unfold fits half at *
  simp only [List.getD_eq_getElem?_getD, List.getElem?_set] at *
  simp only [Bool.and_eq_true, Bool.or_eq_true, decide_eq_true_eq] at *
  constructor
  · by_cases h1 : q = 2 * k
    · subst h1; rw [if_pos rfl, if_pos hq]; left; decide
    · rw [if_neg h1]; exact h.1
  · by_cases h1 : q = 2 * k + 1
    · subst h1; rw [if_pos rfl, if_pos hq]; left; decide
    · rw [if_neg h1]; exact h.2
theorem occ_open (m : List Int) (n : Nat) (s : List UInt8) (q : Nat) (hq : q < m.length) (h1 : 1 ≤ n) (hn : n ≤ 64) (x : Nat) (hx : x ∈ occ m n s s.length) : x ∈ occ (m.set q (-1)) n s s.length := by
  rw [mem_occ _ _ _ h1 hn] at *
  refine ⟨hx.1, ?_⟩
  have := hx.2
  unfold stands at *
  rw [List.all_eq_true] at *
  exact fun k hk => fits_open m q k _ hq (this k hk)
end Like
end Go.Proofs.Ytkahceijhokmoaa
