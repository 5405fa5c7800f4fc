/- Signs of so many bits, in order: the plain law of huff.Signs. No program in sight. -/
import Derived.Test.YtenhblpegobbjaaCommon
namespace Go.Proofs.Ytenhblpegobbjaa
set_option linter.unusedVariables false
set_option linter.unusedSimpArgs false
namespace Huff
/-- where the signs of n bits end -/
def ends (L : List Int) : Nat → Nat
  | 0 => 0
  | n + 1 => 2 * ends L n + L.count ((n + 1 : Nat) : Int)
def wt (x : Int) : Nat := if 0 < x then 2 ^ (24 - x.toNat) else 0
def wsum (L : List Int) : Nat := (L.map wt).sum
def wtTo (n : Nat) (x : Int) : Nat := if 0 < x ∧ x ≤ n then 2 ^ (24 - x.toNat) else 0
def wsumTo (n : Nat) (L : List Int) : Nat := (L.map (wtTo n)).sum
theorem wtTo_succ (n : Nat) (x : Int) : wtTo (n + 1) x = wtTo n x + if x = ((n + 1 : Nat) : Int) then 2 ^ (24 - (n + 1)) else 0 := by
  unfold wtTo
  by_cases h : x = ((n + 1 : Nat) : Int)
  · subst h
    rw [if_pos (by omega), if_neg (by omega), if_pos rfl, Int.toNat_natCast, Nat.zero_add]
  · rw [if_neg h]
    by_cases h1 : 0 < x ∧ x ≤ n
    · rw [if_pos h1, if_pos (by omega)]; rfl
    · rw [if_neg h1, if_neg (by omega)]
theorem wsumTo_succ (n : Nat) (L : List Int) : wsumTo (n + 1) L = wsumTo n L + L.count ((n + 1 : Nat) : Int) * 2 ^ (24 - (n + 1)) := by
  induction L with
  | nil => simp [wsumTo]
  | cons x L ih =>
    simp only [wsumTo, List.map_cons, List.sum_cons] at ih ⊢
    rw [ih, wtTo_succ, List.count_cons]
    by_cases h : x = ((n + 1 : Nat) : Int)
    · rw [if_pos h, if_pos (by rw [beq_iff_eq]; exact h), Nat.add_mul]; omega
    · rw [if_neg h, if_neg (by rw [beq_iff_eq]; exact h)]; simp only [Nat.add_zero]; omega
theorem wsumTo_zero (L : List Int) : wsumTo 0 L = 0 := by
  induction L with
  | nil => rfl
  | cons x L ih =>
    simp only [wsumTo, List.map_cons, List.sum_cons] at ih ⊢
    rw [ih]
    unfold wtTo
    rw [if_neg (by omega)]
theorem wsumTo_le (n : Nat) (L : List Int) : wsumTo n L ≤ wsum L := by
  induction L with
  | nil => exact Nat.le_refl _
  | cons x L ih =>
    simp only [wsumTo, wsum, List.map_cons, List.sum_cons] at ih ⊢
    refine Nat.add_le_add ?_ ih
    unfold wtTo wt
    by_cases h : 0 < x ∧ x ≤ n
    · rw [if_pos h, if_pos h.1]; exact Nat.le_refl _
    · rw [if_neg h]; exact Nat.zero_le _
theorem ends_eq (L : List Int) : ∀ n, n ≤ 24 → ends L n * 2 ^ (24 - n) = wsumTo n L := by
  intro n
  induction n with
  | zero => intro _; rw [wsumTo_zero]; simp [ends]
  | succ n ih =>
    intro h
    have := ih (by omega)
    rw [wsumTo_succ, ← this, show 24 - n = (24 - (n + 1)) + 1 from by omega, Nat.pow_succ]
    simp only [ends]
    rw [Nat.add_mul]
    congr 1
    rw [Nat.mul_comm 2, Nat.mul_assoc, Nat.mul_comm 2]
theorem ends_le (L : List Int) (hs : wsum L ≤ 2 ^ 24) (n : Nat) (h : n ≤ 24) : ends L n ≤ 2 ^ n := by
  have h1 := ends_eq L n h
  have h2 := wsumTo_le n L
  have h3 : 2 ^ n * 2 ^ (24 - n) = 2 ^ 24 := by rw [← Nat.pow_add]; congr 1; omega
  exact Nat.le_of_mul_le_mul_right (by rw [h3]; omega : ends L n * 2 ^ (24 - n) ≤ 2 ^ n * 2 ^ (24 - n)) (Nat.pow_pos (by decide))
theorem ends_grow (L : List Int) (a : Nat) : ∀ k, 2 ^ k * ends L a ≤ ends L (a + k) := by
  intro k
  induction k with
  | zero => simp
  | succ k ih =>
    show 2 ^ (k + 1) * ends L a ≤ 2 * ends L (a + k) + _
    rw [Nat.pow_succ, Nat.mul_comm (2 ^ k), Nat.mul_assoc]
    omega
/-- the sign of the j-th thing -/
def code (L : List Int) (j : Nat) : Nat := if 0 < L.getD j 0 then 2 * ends L ((L.getD j 0).toNat - 1) + (L.take j).count (L.getD j 0) else 0
theorem count_take_lt (L : List Int) (i j : Nat) (hij : i < j) (hi : i < L.length) : (L.take i).count (L.getD i 0) < (L.take j).count (L.getD i 0) := by
  have h1 : (L.take (i + 1)).count (L.getD i 0) = (L.take i).count (L.getD i 0) + 1 := by
    rw [List.take_succ_eq_append_getElem hi, List.count_append, List.getD_eq_getElem?_getD, List.getElem?_eq_getElem hi]
    simp
  have h2 : (L.take (i + 1)).count (L.getD i 0) ≤ (L.take j).count (L.getD i 0) := by
    refine List.Sublist.count_le _ ?_
    rw [show L.take (i + 1) = (L.take j).take (i + 1) from by rw [List.take_take, Nat.min_eq_left (by omega)]]
    exact List.take_sublist _ _
  omega
theorem ends_pos (L : List Int) (n : Nat) (h : 0 < n) : ends L n = 2 * ends L (n - 1) + L.count (n : Int) := by
  obtain ⟨m, rfl⟩ : ∃ m, n = m + 1 := ⟨n - 1, by omega⟩
  rfl
theorem code_lt (L : List Int) (j : Nat) (hj : j < L.length) (h0 : 0 < L.getD j 0) : code L j < ends L (L.getD j 0).toNat := by
  unfold code
  rw [if_pos h0, ends_pos L (L.getD j 0).toNat (by omega)]
  have h1 := count_take_lt L j L.length hj hj
  rw [List.take_length] at h1
  have h2 : (((L.getD j 0).toNat : Nat) : Int) = L.getD j 0 := by omega
  rw [h2]
  omega
theorem code_bound (L : List Int) (hs : wsum L ≤ 2 ^ 24) (j : Nat) (hj : j < L.length) (h0 : 0 < L.getD j 0) (h24 : L.getD j 0 ≤ 24) : code L j < 2 ^ (L.getD j 0).toNat :=
  Nat.lt_of_lt_of_le (code_lt L j hj h0) (ends_le L hs _ (by omega))
theorem apart (L : List Int) (x y : Nat) (hx : x < L.length) (hy : y < L.length) (hne : x ≠ y) (h0 : 0 < L.getD x 0) (hab : L.getD x 0 ≤ L.getD y 0) :
    code L y / 2 ^ (L.getD y 0 - L.getD x 0).toNat ≠ code L x := by
  rcases Int.lt_or_eq_of_le hab with h | h
  · have h1 := code_lt L x hx h0
    have h2 : 2 * ends L ((L.getD y 0).toNat - 1) ≤ code L y := by unfold code; rw [if_pos (by omega)]; omega
    obtain ⟨k, hk⟩ : ∃ k : Nat, (L.getD y 0).toNat - 1 = (L.getD x 0).toNat + k := ⟨(L.getD y 0).toNat - 1 - (L.getD x 0).toNat, by omega⟩
    have h3 := ends_grow L (L.getD x 0).toNat k
    have h4 : (L.getD y 0 - L.getD x 0).toNat = k + 1 := by omega
    rw [hk] at h2
    rw [h4]
    have h5 : ends L (L.getD x 0).toNat ≤ code L y / 2 ^ (k + 1) := by
      rw [Nat.le_div_iff_mul_le (Nat.pow_pos (by decide)), Nat.pow_succ, ← Nat.mul_assoc, Nat.mul_comm (ends L _)]
      omega
    omega
  · rw [h, Int.sub_self]
    simp only [Int.toNat_zero, Nat.pow_zero, Nat.div_one]
    unfold code
    rw [if_pos h0, ← h, if_pos h0]
    have h1 : (L.take x).count (L.getD x 0) ≠ (L.take y).count (L.getD x 0) := by
      rcases Nat.lt_or_gt_of_ne hne with hl | hl
      · exact Nat.ne_of_lt (count_take_lt L x y hl hx)
      · have := count_take_lt L y x hl hy
        rw [← h] at this
        omega
    omega
/-- what is written when the n-th round has come to i -/
def outAt (L : List Int) (n i : Nat) : List Int := (List.range L.length).map fun j => if 0 < L.getD j 0 ∧ (L.getD j 0 < (n : Int) ∨ (L.getD j 0 = (n : Int) ∧ j < i)) then (code L j : Int) else 0
theorem outAt_length (L : List Int) (n i : Nat) : (outAt L n i).length = L.length := by simp [outAt]
def nextAt (L : List Int) (n i : Nat) : Nat := 2 * ends L (n - 1) + (L.take i).count (n : Int)
theorem nextAt_end (L : List Int) (n : Nat) (h : 0 < n) : nextAt L n L.length = ends L n := by
  unfold nextAt; rw [List.take_length, ends_pos L n h]
theorem nextAt_zero (L : List Int) (n : Nat) : nextAt L n 0 = 2 * ends L (n - 1) := by simp [nextAt]
theorem nextAt_hit (L : List Int) (n i : Nat) (hi : i < L.length) (h : L.getD i 0 = (n : Int)) : nextAt L n (i + 1) = nextAt L n i + 1 := by
  unfold nextAt
  rw [List.take_succ_eq_append_getElem hi, List.count_append]
  rw [List.getD_eq_getElem?_getD, List.getElem?_eq_getElem hi] at h
  simp only [Option.getD_some] at h
  rw [h]
  simp
  omega
theorem nextAt_miss (L : List Int) (n i : Nat) (hi : i < L.length) (h : L.getD i 0 ≠ (n : Int)) : nextAt L n (i + 1) = nextAt L n i := by
  unfold nextAt
  rw [List.take_succ_eq_append_getElem hi, List.count_append]
  rw [List.getD_eq_getElem?_getD, List.getElem?_eq_getElem hi] at h
  simp only [Option.getD_some] at h
  rw [List.count_singleton, if_neg (by rw [beq_iff_eq]; exact h)]
  rfl
theorem nextAt_le (L : List Int) (n i : Nat) (h : 0 < n) : nextAt L n i ≤ ends L n := by
  unfold nextAt
  rw [ends_pos L n h]
  have := List.Sublist.count_le (n : Int) (List.take_sublist i L)
  omega
theorem code_next (L : List Int) (n i : Nat) (h0 : 0 < n) (h : L.getD i 0 = (n : Int)) : code L i = nextAt L n i := by
  unfold code nextAt
  rw [if_pos (by omega), h, Int.toNat_natCast]
theorem outAt_hit (L : List Int) (n i : Nat) (hi : i < L.length) (hn : 0 < n) (h : L.getD i 0 = (n : Int)) : outAt L n (i + 1) = (outAt L n i).set i (nextAt L n i : Nat) := by
  apply List.ext_getElem (by simp [outAt])
  intro j h1 h2
  rw [List.getElem_set]
  simp only [outAt, List.getElem_map, List.getElem_range]
  by_cases hj : i = j
  · subst hj
    rw [if_pos rfl, if_pos (by omega), code_next L n i hn h]
  · rw [if_neg hj]
    by_cases hc : 0 < L.getD j 0 ∧ (L.getD j 0 < (n : Int) ∨ (L.getD j 0 = (n : Int) ∧ j < i))
    · rw [if_pos hc, if_pos (by omega)]
    · rw [if_neg hc, if_neg (by omega)]
theorem outAt_miss (L : List Int) (n i : Nat) (h : L.getD i 0 ≠ (n : Int)) : outAt L n (i + 1) = outAt L n i := by
  unfold outAt
  apply List.map_congr_left
  intro j _
  by_cases hj : i = j
  · subst hj
    by_cases hc : 0 < L.getD i 0 ∧ (L.getD i 0 < (n : Int) ∨ (L.getD i 0 = (n : Int) ∧ i < i))
    · rw [if_pos hc, if_pos (by omega)]
    · rw [if_neg hc, if_neg (by omega)]
  · by_cases hc : 0 < L.getD j 0 ∧ (L.getD j 0 < (n : Int) ∨ (L.getD j 0 = (n : Int) ∧ j < i))
    · rw [if_pos hc, if_pos (by omega)]
    · rw [if_neg hc, if_neg (by omega)]
theorem outAt_next (L : List Int) (n : Nat) : outAt L (n + 1) 0 = outAt L n L.length := by
  unfold outAt
  apply List.map_congr_left
  intro j hj
  rw [List.mem_range] at hj
  by_cases hc : 0 < L.getD j 0 ∧ (L.getD j 0 < (n : Int) ∨ (L.getD j 0 = (n : Int) ∧ j < L.length))
  · rw [if_pos hc, if_pos (by omega)]
  · rw [if_neg hc, if_neg (by omega)]
theorem outAt_first (L : List Int) : outAt L 1 0 = List.replicate L.length 0 := by
  apply List.ext_getElem (by simp [outAt])
  intro j h1 h2
  simp only [outAt, List.getElem_map, List.getElem_range, List.getElem_replicate]
  rw [if_neg (by omega)]
/-- all signs -/
def codes (L : List Int) : List Int := (List.range L.length).map fun j => (code L j : Int)
theorem codes_length (L : List Int) : (codes L).length = L.length := by simp [codes]
theorem codes_get (L : List Int) (j : Nat) (h : j < L.length) : (codes L).getD j 0 = (code L j : Int) := by
  rw [List.getD_eq_getElem?_getD, List.getElem?_eq_getElem (by rw [codes_length]; exact h)]
  simp [codes]
theorem outAt_last (L : List Int) (h : ∀ x ∈ L, x ≤ 24) : outAt L 25 0 = codes L := by
  unfold outAt codes
  apply List.map_congr_left
  intro j hj
  rw [List.mem_range] at hj
  have hm : L.getD j 0 ∈ L := by rw [List.getD_eq_getElem?_getD, List.getElem?_eq_getElem hj]; exact List.getElem_mem _
  have := h _ hm
  by_cases hc : 0 < L.getD j 0
  · rw [if_pos (by omega)]
  · rw [if_neg (by omega)]
    unfold code
    rw [if_neg hc]
    rfl
theorem wsum_take (L : List Int) (k : Nat) (h : k < L.length) : wsum (L.take (k + 1)) = wsum (L.take k) + wt (L.getD k 0) := by
  unfold wsum
  rw [List.take_succ_eq_append_getElem h, List.map_append, List.sum_append, List.getD_eq_getElem?_getD, List.getElem?_eq_getElem h]
  simp
theorem wt_le (x : Int) : wt x ≤ 16777216 := by
  unfold wt
  split
  · exact Nat.le_trans (Nat.pow_le_pow_right (by decide) (Nat.sub_le 24 _)) (by decide)
  · decide
theorem wsum_le (L : List Int) : wsum L ≤ L.length * 16777216 := by
  induction L with
  | nil => exact Nat.le_refl _
  | cons x L ih =>
    simp only [wsum, List.map_cons, List.sum_cons, List.length_cons] at ih ⊢
    have := wt_le x
    omega
end Huff
end Go.Proofs.Ytenhblpegobbjaa
