/- The lengths of signs of few bytes fit. Plain. -/
import Derived.Test.YtenhblpegobbjaaPlainHuff5
namespace Go.Proofs.Ytenhblpegobbjaa
set_option linter.unusedVariables false
set_option linter.unusedSimpArgs false
namespace Huff
theorem map_range (D : List Nat) (f : Nat → Nat) : D.map f = (List.range D.length).map fun i => f (D.getD i 0) := by
  apply List.ext_getElem
  · simp
  · intro i h1 h2
    rw [List.length_map] at h1
    rw [List.getElem_map, List.getElem_map, List.getElem_range, List.getD_eq_getElem?_getD, List.getElem?_eq_getElem h1]; rfl
theorem wsum_kraft (D : List Nat) : wsum (D.map fun n : Nat => (n : Int)) = kraftTo D 24 D.length := by
  unfold wsum kraftTo
  rw [List.map_map, map_range D]
  congr 1
  apply List.map_congr_left
  intro i _
  simp only [Function.comp_apply, wt, Int.toNat_natCast]
  by_cases h : 0 < D.getD i 0
  · rw [if_pos (by omega), if_pos h]
  · rw [if_neg (by omega), if_neg h]
theorem kraft_few (D : List Nat) : ∀ k, kraftTo D 24 k ≤ ((List.range k).filter fun i => decide (0 < D.getD i 0)).length * 2 ^ 23 := by
  intro k
  induction k with
  | zero => simp [kraftTo]
  | succ k ih =>
    rw [kraftTo_succ, List.range_succ, List.filter_append, List.length_append]
    by_cases h : 0 < D.getD k 0
    · have h1 : 2 ^ (24 - D.getD k 0) ≤ 2 ^ 23 := Nat.pow_le_pow_right (by decide) (by omega)
      have h2 : ([k].filter fun i => decide (0 < D.getD i 0)).length = 1 := by rw [List.filter_cons, if_pos (by rw [decide_eq_true_eq]; exact h)]; rfl
      rw [if_pos h, h2, Nat.add_mul, Nat.one_mul]; omega
    · rw [if_neg h]
      have h2 : ([k].filter fun i => decide (0 < D.getD i 0)).length = 0 := by rw [List.filter_cons, if_neg (by rw [decide_eq_true_eq]; exact h)]; rfl
      rw [h2]; omega
theorem fits_few (C : List Nat) (hC : C.length ≤ 256) (hs : C.sum ≤ 25000) : (∀ x ∈ (lens C).map (fun n : Nat => (n : Int)), 0 ≤ x ∧ x ≤ 24) ∧ wsum ((lens C).map fun n : Nat => (n : Int)) ≤ 16777216 := by
  have hsh := shallow C hC hs
  have hln := lens_length C hC
  constructor
  · intro x hx
    obtain ⟨n, hn, rfl⟩ := List.mem_map.1 hx
    obtain ⟨i, hi, rfl⟩ := List.getElem_of_mem hn
    have h := hsh i
    rw [List.getD_eq_getElem?_getD, List.getElem?_eq_getElem hi] at h
    simp only [Option.getD_some] at h
    omega
  · rw [wsum_kraft, hln]
    by_cases h2 : 2 ≤ (some_ C).length
    · rw [kraft C hC h2 24 hsh (by omega)]; decide
    · have h3 := kraft_few (lens C) C.length
      have h4 : ((List.range C.length).filter fun i => decide (0 < (lens C).getD i 0)) = some_ C := by
        unfold some_
        apply List.filter_congr
        intro i hi
        rw [List.mem_range] at hi
        have := lens_iff C hC i hi
        by_cases hp : 0 < C.getD i 0
        · rw [decide_eq_true hp, decide_eq_true (this.2 hp)]
        · rw [decide_eq_false hp, decide_eq_false (fun h => hp (this.1 h))]
      rw [h4] at h3
      have h5 : (some_ C).length * 2 ^ 23 ≤ 1 * 2 ^ 23 := Nat.mul_le_mul_right _ (by omega)
      have : (1 : Nat) * 2 ^ 23 ≤ 16777216 := by decide
      omega
end Huff
end Go.Proofs.Ytenhblpegobbjaa
