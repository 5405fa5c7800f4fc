/- Huffman's lengths: which are above 0, how great they are, and Kraft's sum. No program in sight. -/
import Derived.Test.YtenhblpegobbjaaPlainHuff3
namespace Go.Proofs.Ytenhblpegobbjaa
set_option linter.unusedVariables false
set_option linter.unusedSimpArgs false
namespace Huff
theorem leaves_length (C : List Nat) : (leaves C).length = (some_ C).length := by rw [← List.length_map (f := Grp.n), leaves_n, List.length_map]
theorem some_le (C : List Nat) : (some_ C).length ≤ C.length := by
  unfold some_
  exact Nat.le_trans (List.length_filter_le _ _) (by simp)
theorem mem_some (C : List Nat) (i : Nat) : i ∈ some_ C ↔ i < C.length ∧ 0 < C.getD i 0 := by
  unfold some_
  rw [List.mem_filter, List.mem_range, decide_eq_true_iff]
theorem some_nodup (C : List Nat) : (some_ C).Nodup := by
  unfold some_
  exact List.nodup_range.filter _
/-- the state at the end -/
theorem ended (C : List Nat) (hC : C.length ≤ 256) : ∃ l' made', l'.length ≤ 1 ∧ (leaves C ≠ [] → l' ≠ []) ∧ St C (leaves C).length l' made' (run (leaves C).length (leaves C) 256 (List.replicate C.length 0)) := by
  have hT : (leaves C).length ≤ 256 := by have := leaves_length C; have := some_le C; omega
  exact run_all (fun l made D => St C (leaves C).length l made D) (fun l made D h => h.perm (isort_perm l).symm) (fun x y r made D h => h.step hT) _ _ _ _ (Nat.le_refl _) (St.start C hC)
theorem lens_length (C : List Nat) (hC : C.length ≤ 256) : (lens C).length = C.length := by
  obtain ⟨l', made', _, _, h⟩ := ended C hC
  by_cases h1 : (leaves C).length = 1
  · obtain ⟨g, hg⟩ := List.length_eq_one_iff.1 h1
    rw [lens_one C g hg, bump_length, List.length_replicate]
  · rw [lens_many C h1]; exact h.len
/-- two or more: all lie beneath one group -/
theorem ended_many (C : List Nat) (hC : C.length ≤ 256) (h2 : 2 ≤ (some_ C).length) : ∃ g made', St C (some_ C).length [g] made' (lens C) ∧ g.of.Perm (some_ C) := by
  obtain ⟨l', made', h1, hne, h⟩ := ended C hC
  have hl := leaves_length C
  have hn : leaves C ≠ [] := by intro hh; rw [hh] at hl; simp at hl; omega
  rw [← lens_many C (by omega), hl] at h
  match l', h1, hne hn, h with
  | [g], _, _, h =>
    refine ⟨g, made', h, ?_⟩
    have hnd := h.nodup
    simp only [List.flatMap_cons, List.flatMap_nil, List.append_nil] at hnd
    refine (List.perm_ext_iff_of_nodup hnd (some_nodup C)).2 fun i => ?_
    have := h.mem i
    simp only [List.flatMap_cons, List.flatMap_nil, List.append_nil] at this
    rw [this, mem_some]
theorem lens_zero (C : List Nat) (hC : C.length ≤ 256) (i : Nat) (h : ¬ (i < C.length ∧ 0 < C.getD i 0)) : (lens C).getD i 0 = 0 := by
  by_cases h1 : (leaves C).length = 1
  · obtain ⟨g, hg⟩ := List.length_eq_one_iff.1 h1
    have hst := St.start C hC
    rw [lens_one C g hg]
    rw [hg] at hst
    have hnd := hst.nodup
    simp only [List.flatMap_cons, List.flatMap_nil, List.append_nil] at hnd
    have hm := hst.mem i
    simp only [List.flatMap_cons, List.flatMap_nil, List.append_nil] at hm
    rw [bump_get _ _ hnd (fun k hk => by rw [List.length_replicate]; exact (hst.of_lt List.mem_cons_self k hk).1), getD_replicate_zero, if_neg (fun hh => h (hm.1 hh))]
  · obtain ⟨l', made', _, _, hst⟩ := ended C hC
    rw [lens_many C h1]
    exact hst.zero i fun hh => h ((hst.mem i).1 hh)
theorem lens_pos (C : List Nat) (hC : C.length ≤ 256) (i : Nat) (h : i < C.length ∧ 0 < C.getD i 0) : 0 < (lens C).getD i 0 := by
  have hi := (mem_some C i).2 h
  have hl := leaves_length C
  by_cases h1 : (leaves C).length = 1
  · obtain ⟨g, hg⟩ := List.length_eq_one_iff.1 h1
    have hst := St.start C hC
    rw [lens_one C g hg]
    rw [hg] at hst
    have hnd := hst.nodup
    simp only [List.flatMap_cons, List.flatMap_nil, List.append_nil] at hnd
    have hm := hst.mem i
    simp only [List.flatMap_cons, List.flatMap_nil, List.append_nil] at hm
    rw [bump_get _ _ hnd (fun k hk => by rw [List.length_replicate]; exact (hst.of_lt List.mem_cons_self k hk).1), if_pos (hm.2 h)]
    omega
  · have hp : 0 < (some_ C).length := List.length_pos_of_mem hi
    obtain ⟨g, made', hst, hperm⟩ := ended_many C hC (by omega)
    exact hst.pos g List.mem_cons_self (by rw [hperm.length_eq]; omega) i (hperm.mem_iff.2 hi)
theorem lens_iff (C : List Nat) (hC : C.length ≤ 256) (i : Nat) (hi : i < C.length) : 0 < (lens C).getD i 0 ↔ 0 < C.getD i 0 := by
  constructor
  · intro h
    by_cases hc : 0 < C.getD i 0
    · exact hc
    · have := lens_zero C hC i (fun hh => hc hh.2); omega
  · exact fun h => lens_pos C hC i ⟨hi, h⟩
theorem lens_le (C : List Nat) (hC : C.length ≤ 256) (i : Nat) : (lens C).getD i 0 ≤ 255 := by
  have hl := leaves_length C
  have hs := some_le C
  by_cases h1 : (leaves C).length = 1
  · obtain ⟨g, hg⟩ := List.length_eq_one_iff.1 h1
    have hst := St.start C hC
    rw [lens_one C g hg]
    rw [hg] at hst
    have hnd := hst.nodup
    simp only [List.flatMap_cons, List.flatMap_nil, List.append_nil] at hnd
    rw [bump_get _ _ hnd (fun k hk => by rw [List.length_replicate]; exact (hst.of_lt List.mem_cons_self k hk).1), getD_replicate_zero]
    split <;> omega
  · by_cases h0 : (leaves C).length = 0
    · obtain ⟨l', made', _, _, hst⟩ := ended C hC
      rw [lens_many C h1]
      have := hst.deep i
      omega
    · obtain ⟨g, made', hst, hperm⟩ := ended_many C hC (by omega)
      have := hst.deep i
      simp only [List.length_cons, List.length_nil] at this
      omega
theorem sum_mul (l : List Nat) (f : Nat → Nat) (k : Nat) : (l.map fun i => f i * k).sum = (l.map f).sum * k := by
  induction l with
  | nil => simp
  | cons x l ih => simp only [List.map_cons, List.sum_cons, ih, Nat.add_mul]
/-- KRAFT's: the sum over all of a table -/
def kraftTo (D : List Nat) (most k : Nat) : Nat := ((List.range k).map fun i => if 0 < D.getD i 0 then 2 ^ (most - D.getD i 0) else 0).sum
theorem kraftTo_succ (D : List Nat) (most k : Nat) : kraftTo D most (k + 1) = kraftTo D most k + if 0 < D.getD k 0 then 2 ^ (most - D.getD k 0) else 0 := by
  unfold kraftTo
  rw [List.range_succ, List.map_append, List.sum_append]
  simp
theorem kraftTo_mono (D : List Nat) (most k : Nat) : ∀ m, kraftTo D most k ≤ kraftTo D most (k + m) := by
  intro m
  induction m with
  | zero => exact Nat.le_refl _
  | succ m ih => rw [← Nat.add_assoc, kraftTo_succ]; omega
theorem kraft (C : List Nat) (hC : C.length ≤ 256) (h2 : 2 ≤ (some_ C).length) (most : Nat) (hm : ∀ i, (lens C).getD i 0 ≤ most) (h60 : most ≤ 60) : kraftTo (lens C) most C.length = 2 ^ most := by
  obtain ⟨g, made', hst, hperm⟩ := ended_many C hC h2
  have hk := hst.kraft g List.mem_cons_self
  rw [(hperm.map _).sum_nat] at hk
  have h1 : kraftTo (lens C) most C.length = ((some_ C).map fun i => 2 ^ (most - (lens C).getD i 0)).sum := by
    unfold kraftTo
    rw [sum_filter (List.range C.length) (fun i => decide (0 < C.getD i 0)) _ (fun i hi hp => by
      rw [if_neg]
      rw [lens_iff C hC i (List.mem_range.1 hi)]
      simpa using hp)]
    refine sum_congr _ _ _ fun i hi => ?_
    rw [if_pos (lens_pos C hC i ((mem_some C i).1 hi))]
  rw [h1]
  have h3 : ((some_ C).map fun i => 2 ^ (256 - (lens C).getD i 0)).sum = ((some_ C).map fun i => 2 ^ (most - (lens C).getD i 0)).sum * 2 ^ (256 - most) := by
    rw [← sum_mul]
    refine sum_congr _ _ _ fun i _ => ?_
    rw [← Nat.pow_add]
    congr 1
    have := hm i
    omega
  rw [h3] at hk
  have h4 : (2 : Nat) ^ 256 = 2 ^ most * 2 ^ (256 - most) := by rw [← Nat.pow_add]; congr 1; omega
  rw [h4] at hk
  exact Nat.eq_of_mul_eq_mul_right (Nat.pow_pos (by decide)) hk
end Huff
end Go.Proofs.Ytenhblpegobbjaa
