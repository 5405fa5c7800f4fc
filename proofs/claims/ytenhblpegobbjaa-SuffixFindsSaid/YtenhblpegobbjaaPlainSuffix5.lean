/- What Find answers: the row of ends that begin with the pattern, in rising order. -/
import Derived.Test.YtenhblpegobbjaaPlainSuffix4
namespace Go.Proofs.Ytenhblpegobbjaa
set_option linter.unusedVariables false
namespace Suf
variable (s : List UInt8)
theorem row_get (A : List Nat) (lo h : Nat) (hh : h ≤ A.length) (j : Nat) (hj : j < h - lo) : ((A.drop lo).take (h - lo)).getD j 0 = A.getD (lo + j) 0 := by
  rw [List.getD_eq_getElem?_getD, List.getD_eq_getElem?_getD, List.getElem?_take_of_lt hj, List.getElem?_drop]
theorem row_mem (A : List Nat) (lo h : Nat) (hh : h ≤ A.length) (v : Nat) : v ∈ (A.drop lo).take (h - lo) ↔ ∃ y, lo ≤ y ∧ y < h ∧ A.getD y 0 = v := by
  have hl : ((A.drop lo).take (h - lo)).length = min (h - lo) (A.length - lo) := by rw [List.length_take, List.length_drop]
  constructor
  · intro hv
    obtain ⟨j, hj, rfl⟩ := List.getElem_of_mem hv
    have hj2 : j < h - lo := by omega
    refine ⟨lo + j, by omega, by omega, ?_⟩
    rw [← row_get A lo h hh j hj2, List.getD_eq_getElem?_getD, List.getElem?_eq_getElem hj]; rfl
  · rintro ⟨y, h1, h2, rfl⟩
    have e := row_get A lo h hh (y - lo) (by omega)
    rw [show lo + (y - lo) = y by omega] at e
    rw [← e, List.getD_eq_getElem?_getD, List.getElem?_eq_getElem (by omega : y - lo < _)]
    exact List.getElem_mem _
theorem find_list {A : List Nat} (hS : Sorted s A) (p : List UInt8) (lo h : Nat) (hlo : lo ≤ h) (hh : h ≤ s.length)
    (hf : ∀ x, x < A.length → (Lib.compareBytes (s.drop (A.getD x 0)) p < 0 ↔ x < lo))
    (hP : ∀ y, lo ≤ y → y < h → Lib.hasPrefix (s.drop (A.getD y 0)) p = true)
    (hE : ∀ y, y < s.length → y = h → Lib.hasPrefix (s.drop (A.getD y 0)) p = false) :
    ∃ L : List Nat, (((A.drop lo).take (h - lo)).map fun i : Nat => (i : Int)).mergeSort (fun x y => decide (x ≤ y)) = L.map (fun i : Nat => (i : Int)) ∧ L.length = h - lo ∧ L.Pairwise (· < ·) ∧ ∀ i, i ∈ L ↔ i < s.length ∧ p <+: s.drop i := by
  have hlen := hS.length s
  have hpre : ∀ i, Lib.hasPrefix (s.drop i) p = true ↔ p <+: s.drop i := fun i => List.isPrefixOf_iff_prefix
  obtain ⟨M, hM⟩ : ∃ M, M = (((A.drop lo).take (h - lo)).map fun i : Nat => (i : Int)).mergeSort (fun x y => decide (x ≤ y)) := ⟨_, rfl⟩
  have hperm : M.Perm (((A.drop lo).take (h - lo)).map fun i : Nat => (i : Int)) := by rw [hM]; exact List.mergeSort_perm _ _
  have hsorted : M.Pairwise fun x y => decide (x ≤ y) = true := by
    rw [hM]
    exact List.pairwise_mergeSort (fun a b c h1 h2 => by simp only [decide_eq_true_eq] at *; omega) (fun a b => by simp only [Bool.or_eq_true, decide_eq_true_eq]; omega) _
  have hnn : ∀ x ∈ M, 0 ≤ x := fun x hx => by
    have := hperm.mem_iff.1 hx
    rw [List.mem_map] at this
    obtain ⟨i, _, rfl⟩ := this
    omega
  have hML : M = (M.map Int.toNat).map (fun i : Nat => (i : Int)) := by
    rw [List.map_map]
    conv => lhs; rw [← List.map_id M]
    apply List.map_congr_left
    intro x hx
    have := hnn x hx
    simp only [id, Function.comp_apply]
    omega
  have hp2 : (M.map Int.toNat).Perm ((A.drop lo).take (h - lo)) := by
    have := hperm.map Int.toNat
    rw [List.map_map] at this
    have e : (Int.toNat ∘ fun i : Nat => (i : Int)) = id := by funext i; simp
    rw [e, List.map_id] at this
    exact this
  have hnd : ((A.drop lo).take (h - lo)).Nodup := by
    have : A.Nodup := hS.1.nodup_iff.2 List.nodup_range
    exact (this.sublist (List.drop_sublist _ _)).sublist (List.take_sublist _ _)
  have hnd2 : (M.map Int.toNat).Nodup := hp2.nodup_iff.2 hnd
  rw [← hM]
  refine ⟨M.map Int.toNat, hML, by rw [hp2.length_eq, List.length_take, List.length_drop]; omega, ?_, fun i => ?_⟩
  · have h1 : (M.map Int.toNat).Pairwise (· ≤ ·) := by
      rw [List.pairwise_map]
      exact hsorted.imp fun {a b} h => by simp only [decide_eq_true_eq] at h; omega
    exact (h1.and hnd2).imp fun {a b} ⟨h, h2⟩ => Nat.lt_of_le_of_ne h h2
  · rw [hp2.mem_iff, row_mem A lo h (by omega)]
    constructor
    · rintro ⟨y, h1, h2, rfl⟩
      exact ⟨hS.mem s y (by omega), (hpre _).1 (hP y h1 h2)⟩
    · rintro ⟨h1, h2⟩
      have hm : i ∈ A := hS.1.mem_iff.2 (List.mem_range.2 h1)
      obtain ⟨y, hy, rfl⟩ := List.getElem_of_mem hm
      have hg : A.getD y 0 = A[y] := by rw [List.getD_eq_getElem?_getD, List.getElem?_eq_getElem hy]; rfl
      refine ⟨y, Nat.le_of_not_lt fun h3 => ?_, Nat.lt_of_not_le fun h3 => ?_, hg⟩
      · have := (hf y hy).2 h3
        rw [hg, cmp_lt] at this
        exact prefix_not_lt p _ h2 this
      · by_cases hhn : h < s.length
        · have h9 := hE h hhn rfl
          have := row_of s hS p h y h3 (by omega) (fun h4 => by have := (hf h (by omega)).1 h4; omega) (by rw [hg]; exact h2)
          rw [← hpre, h9] at this
          cases this
        · omega
end Suf
end Go.Proofs.Ytenhblpegobbjaa
