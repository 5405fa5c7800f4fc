/- What ends in their order have in common, by KASAI's way. Plain. -/
import Derived.Test.YtenhblpegobbjaaPlainSuffix
namespace Go.Proofs.Ytenhblpegobbjaa
set_option linter.unusedVariables false
set_option linter.unusedSimpArgs false
namespace Suf
variable (s : List UInt8)
theorem fm_ext {m i j : Nat} (d : Nat) (h : fm s m i < fm s m j) : fm s (m + d) i < fm s (m + d) j := by
  rw [fm_add, fm_add, split_lt (fm_lt s d _) (fm_lt s d _)]
  exact .inl h
theorem fm_pre {m i j : Nat} (d : Nat) (h : fm s (m + d) i ≤ fm s (m + d) j) : fm s m i ≤ fm s m j := by
  refine Nat.le_of_not_lt fun h9 => ?_
  have := fm_ext s d h9
  omega
theorem sorted_n {A : List Nat} (h : Sorted s A) : ∀ x y, x < y → y < A.length → fm s s.length (A.getD x 0) < fm s s.length (A.getD y 0) := by
  obtain ⟨hp, m, hm⟩ := h
  intro x y hxy hy
  have h1 := hm x y hxy hy
  rcases Nat.le_total m s.length with h | h
  · obtain ⟨d, e⟩ : ∃ d, s.length = m + d := ⟨s.length - m, by omega⟩
    rw [e]
    exact fm_ext s d h1
  · obtain ⟨d, rfl⟩ : ∃ d, m = s.length + d := ⟨m - s.length, by omega⟩
    have h2 := fm_pre s d (Nat.le_of_lt h1)
    have hmem : ∀ x, x < A.length → A.getD x 0 < s.length := by
      intro x hx
      rw [List.getD_eq_getElem?_getD, List.getElem?_eq_getElem hx]
      exact List.mem_range.1 (hp.mem_iff.1 (List.getElem_mem hx))
    have hne : A.getD x 0 ≠ A.getD y 0 := by intro e; rw [e] at h1; omega
    refine Nat.lt_of_le_of_ne h2 fun e => ?_
    rcases Nat.lt_or_gt_of_ne hne with h | h
    · exact fm_ne s (Nat.le_refl _) h (hmem _ hy) e
    · exact fm_ne s (Nat.le_refl _) h (hmem _ (by omega)) e.symm
theorem sorted_le {A : List Nat} (h : Sorted s A) (x y : Nat) (hxy : x ≤ y) (hy : y < A.length) : fm s s.length (A.getD x 0) ≤ fm s s.length (A.getD y 0) := by
  rcases Nat.lt_or_eq_of_le hxy with h1 | rfl
  · exact Nat.le_of_lt (sorted_n s h x y h1 hy)
  · exact Nat.le_refl _
theorem Sorted.length {A : List Nat} (h : Sorted s A) : A.length = s.length := by rw [h.1.length_eq, List.length_range]
theorem Sorted.mem {A : List Nat} (h : Sorted s A) (x : Nat) (hx : x < s.length) : A.getD x 0 < s.length := by
  have hx' : x < A.length := by rw [h.length]; exact hx
  rw [List.getD_eq_getElem?_getD, List.getElem?_eq_getElem hx']
  exact List.mem_range.1 (h.1.mem_iff.1 (List.getElem_mem hx'))
theorem Sorted.find {A : List Nat} (h : Sorted s A) (i : Nat) (hi : i < s.length) : ∃ x, x < s.length ∧ A.getD x 0 = i := by
  have hm : i ∈ A := h.1.mem_iff.2 (List.mem_range.2 hi)
  obtain ⟨x, hx, e⟩ := List.getElem_of_mem hm
  exact ⟨x, by rw [← h.length]; exact hx, by rw [List.getD_eq_getElem?_getD, List.getElem?_eq_getElem hx]; exact e⟩
theorem Sorted.inj {A : List Nat} (h : Sorted s A) {x y : Nat} (hx : x < s.length) (hy : y < s.length) (e : A.getD x 0 = A.getD y 0) : x = y := by
  rcases Nat.lt_trichotomy x y with h1 | h1 | h1
  · have := sorted_n s h x y h1 (by rw [h.length]; exact hy)
    rw [e] at this; omega
  · exact h1
  · have := sorted_n s h y x h1 (by rw [h.length]; exact hx)
    rw [e] at this; omega
theorem sorted_unique : ∀ (A B : List Nat) (g : Nat → Nat), A.Perm B → A.Pairwise (fun a b => g a < g b) → B.Pairwise (fun a b => g a < g b) → A = B
  | [], B, g, hp, _, _ => (List.nil_perm.1 hp).symm
  | a :: A, [], g, hp, _, _ => absurd hp.length_eq (by simp)
  | a :: A, b :: B, g, hp, hA, hB => by
    obtain ⟨ha, hA'⟩ := List.pairwise_cons.1 hA
    obtain ⟨hb, hB'⟩ := List.pairwise_cons.1 hB
    have e : a = b := by
      have h1 : a ∈ b :: B := hp.mem_iff.1 List.mem_cons_self
      have h2 : b ∈ a :: A := hp.mem_iff.2 List.mem_cons_self
      rcases List.mem_cons.1 h1 with h1 | h1
      · exact h1
      · rcases List.mem_cons.1 h2 with h2 | h2
        · exact h2.symm
        · have := hb _ h1; have := ha _ h2; omega
    subst e
    rw [sorted_unique A B g (List.Perm.cons_inv hp) hA' hB']
theorem Sorted.pairwise {A : List Nat} (h : Sorted s A) : A.Pairwise (fun a b => fm s s.length a < fm s s.length b) := by
  rw [List.pairwise_iff_getElem]
  intro i j hi hj hij
  have := sorted_n s h i j hij hj
  rw [List.getD_eq_getElem?_getD, List.getElem?_eq_getElem hi, List.getD_eq_getElem?_getD, List.getElem?_eq_getElem hj] at this
  exact this
theorem Sorted.unique {A B : List Nat} (h : Sorted s A) (h' : Sorted s B) : A = B := sorted_unique A B _ (h.1.trans h'.1.symm) h.pairwise h'.pairwise
/-- both go on alike at a place -/
def same (i j t : Nat) : Prop := i + t < s.length ∧ j + t < s.length ∧ s.getD (i + t) 0 = s.getD (j + t) 0
instance (i j t : Nat) : Decidable (same s i j t) := by unfold same; exact inferInstance
/-- so many bytes two ends have in common -/
def IsLcp (i j m : Nat) : Prop := (∀ t, t < m → same s i j t) ∧ ¬ same s i j m
theorem IsLcp.unique {i j m m' : Nat} (h : IsLcp s i j m) (h' : IsLcp s i j m') : m = m' := by
  rcases Nat.lt_trichotomy m m' with h1 | h1 | h1
  · exact absurd (h'.1 m h1) h.2
  · exact h1
  · exact absurd (h.1 m' h1) h'.2
theorem same_cs {i j t : Nat} : same s i j t ↔ i + t < s.length ∧ cs s (i + t) = cs s (j + t) := by
  unfold same cs
  constructor
  · rintro ⟨h1, h2, h3⟩
    exact ⟨h1, by rw [if_pos h1, if_pos h2, h3]⟩
  · rintro ⟨h1, h3⟩
    rw [if_pos h1] at h3
    split at h3
    · rename_i h2
      exact ⟨h1, h2, UInt8.toNat_inj.1 (by omega)⟩
    · omega
theorem fm_same {i j : Nat} : ∀ m, (∀ t, t < m → same s i j t) → fm s m i = fm s m j := by
  intro m
  induction m with
  | zero => intro _; rfl
  | succ m ih =>
    intro h
    unfold fm
    rw [ih (fun t ht => h t (by omega)), ((same_cs s).1 (h m (by omega))).2]
/-- KASAI: the next end has not much less in common with the one ahead of it -/
theorem kasai {A : List Nat} (h : Sorted s A) (i m x y : Nat) (hx : x + 1 < s.length) (hy : y + 1 < s.length) (ex : A.getD (x + 1) 0 = i) (ey : A.getD (y + 1) 0 = i + 1) (hm : ∀ t, t < m → same s i (A.getD x 0) t) :
    ∀ t, t < m - 1 → same s (i + 1) (A.getD y 0) t := by
  intro t ht
  have hAl := h.length
  obtain ⟨J, hJ⟩ : ∃ J, J = A.getD x 0 := ⟨_, rfl⟩
  rw [← hJ] at hm
  have hb := sorted_n s h x (x + 1) (by omega) (by omega)
  rw [ex, ← hJ] at hb
  have hJ1 : J + 1 < s.length := by have := (hm 1 (by omega)).2.1; omega
  have hc0 := ((same_cs s).1 (hm 0 (by omega))).2
  rw [Nat.add_zero, Nat.add_zero] at hc0
  obtain ⟨L, hL⟩ : ∃ L, s.length = L + 1 := ⟨s.length - 1, by omega⟩
  have hb1 : fm s L (J + 1) < fm s L (i + 1) := by
    rw [hL, fm_head, fm_head, split_lt (fm_lt s L _) (fm_lt s L _)] at hb
    omega
  have hb2 := fm_ext s 1 hb1
  rw [← hL] at hb2
  obtain ⟨z, hz, ez⟩ := h.find _ (J + 1) hJ1
  have hzy : z ≤ y := by
    refine Nat.le_of_not_lt fun h9 => ?_
    have := sorted_le s h (y + 1) z (by omega) (by omega)
    rw [ez, ey] at this
    omega
  have hle1 := sorted_le s h z y hzy (by omega)
  rw [ez] at hle1
  have hle2 := sorted_le s h y (y + 1) (by omega) (by omega)
  rw [ey] at hle2
  obtain ⟨k, hk⟩ : ∃ k, k = m - 1 := ⟨_, rfl⟩
  have hkn : k ≤ s.length := by
    have := (hm (m - 1) (by omega)).1
    omega
  have heq : fm s k (i + 1) = fm s k (J + 1) := by
    refine fm_same s k fun t ht => ?_
    have := hm (t + 1) (by omega)
    unfold same at this ⊢
    rw [show i + 1 + t = i + (t + 1) by omega, show J + 1 + t = J + (t + 1) by omega]
    exact this
  obtain ⟨d, hd⟩ : ∃ d, s.length = k + d := ⟨s.length - k, by omega⟩
  have g1 : fm s k (J + 1) ≤ fm s k (A.getD y 0) := by rw [hd] at hle1; exact fm_pre s d hle1
  have g2 : fm s k (A.getD y 0) ≤ fm s k (i + 1) := by rw [hd] at hle2; exact fm_pre s d hle2
  have hfin : fm s k (i + 1) = fm s k (A.getD y 0) := by omega
  rw [same_cs]
  have h1 := (hm (t + 1) (by omega)).1
  exact ⟨by omega, fm_eq s k hfin t (by omega)⟩
/-- what each one has in common with the one ahead of it -/
def Commons (A C : List Nat) : Prop := C.length = s.length ∧ C.getD 0 0 = 0 ∧ ∀ x, x + 1 < s.length → IsLcp s (A.getD (x + 1) 0) (A.getD x 0) (C.getD (x + 1) 0)
theorem Commons.unique {A C D : List Nat} (h : Commons s A C) (h' : Commons s A D) : C = D := by
  apply List.ext_getElem
  · rw [h.1, h'.1]
  · intro i h1 h2
    have e1 : C[i] = C.getD i 0 := by rw [List.getD_eq_getElem?_getD, List.getElem?_eq_getElem h1]; rfl
    have e2 : D[i] = D.getD i 0 := by rw [List.getD_eq_getElem?_getD, List.getElem?_eq_getElem h2]; rfl
    rw [e1, e2]
    cases i with
    | zero => rw [h.2.1, h'.2.1]
    | succ i => exact (h.2.2 i (by rw [← h.1]; exact h1)).unique s (h'.2.2 i (by rw [← h.1]; exact h1))
end Suf
end Go.Proofs.Ytenhblpegobbjaa
