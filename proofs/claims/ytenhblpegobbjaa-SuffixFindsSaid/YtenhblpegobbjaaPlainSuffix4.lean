/- Where a pattern stands among the ends in their order. Plain. -/
import Derived.Test.YtenhblpegobbjaaPlainSuffix2
import Derived.Lib.Bytealg
namespace Go.Proofs.Ytenhblpegobbjaa
set_option linter.unusedVariables false
set_option linter.unusedSimpArgs false
namespace Suf
theorem nil_or {b : UInt8} {y : List UInt8} : ([] : List UInt8) < b :: y := List.Lex.nil
theorem cons_lt {a b : UInt8} {x y : List UInt8} : a :: x < b :: y ↔ a < b ∨ a = b ∧ x < y := List.cons_lt_cons_iff
theorem cmp_lt : ∀ a b : List UInt8, Lib.compareBytes a b < 0 ↔ a < b
  | [], [] => by
    have : ¬ ([] : List UInt8) < [] := List.not_lt_nil _
    simp [Lib.compareBytes, this]
  | [], b :: y => by
    have : ([] : List UInt8) < b :: y := nil_or
    simp [Lib.compareBytes, this]
  | a :: x, [] => by
    have : ¬ (a :: x) < ([] : List UInt8) := List.not_lt_nil _
    simp [Lib.compareBytes, this]
  | a :: x, b :: y => by
    rw [cons_lt]
    unfold Lib.compareBytes
    by_cases h1 : a < b
    · simp [h1]
    · rw [if_neg h1]
      by_cases h2 : b < a
      · rw [if_pos h2]
        have hne : a ≠ b := fun e => by subst e; exact UInt8.lt_irrefl a h2
        simp [h1, hne]
      · rw [if_neg h2, cmp_lt x y]
        have he : a = b := by
          rw [UInt8.lt_iff_toNat_lt] at h1 h2
          exact UInt8.toNat_inj.1 (by omega)
        simp [h1, he]
/-- what lies between a pattern and a text that begins with it begins with it -/
theorem between : ∀ (p u v : List UInt8), ¬ u < p → ¬ v < u → p <+: v → p <+: u
  | [], u, v, _, _, _ => List.nil_prefix
  | a :: p, u, [], _, _, h => by
    have := h.length_le
    simp at this
  | a :: p, [], b :: v, h1, _, _ => absurd nil_or h1
  | a :: p, b :: u, c :: v, h1, h2, h3 => by
    rw [List.cons_prefix_cons] at h3 ⊢
    obtain ⟨rfl, h3⟩ := h3
    rw [cons_lt] at h1 h2
    have he : a = b := by
      have g1 : ¬ b < a := fun h => h1 (.inl h)
      have g2 : ¬ a < b := fun h => h2 (.inl h)
      rw [UInt8.lt_iff_toNat_lt] at g1 g2
      exact UInt8.toNat_inj.1 (by omega)
    subst he
    exact ⟨rfl, between p u v (fun h => h1 (.inr ⟨rfl, h⟩)) (fun h => h2 (.inr ⟨rfl, h⟩)) h3⟩
theorem prefix_not_lt : ∀ (p u : List UInt8), p <+: u → ¬ u < p
  | [], u, _ => List.not_lt_nil u
  | a :: p, [], h => by
    have := h.length_le
    simp at this
  | a :: p, b :: u, h => by
    rw [List.cons_prefix_cons] at h
    obtain ⟨rfl, h⟩ := h
    rw [cons_lt]
    rintro (h1 | ⟨_, h1⟩)
    · exact UInt8.lt_irrefl _ h1
    · exact prefix_not_lt p u h h1
theorem lt_trans' {a b c : List UInt8} (h1 : a < b) (h2 : b < c) : a < c := List.lt_trans h1 h2
theorem lt_asymm' {a b : List UInt8} (h1 : a < b) : ¬ b < a := fun h2 => List.lt_irrefl a (List.lt_trans h1 h2)
variable (s : List UInt8)
theorem drop_le {A : List Nat} (hS : Sorted s A) (x y : Nat) (hxy : x ≤ y) (hy : y < s.length) : ¬ s.drop (A.getD y 0) < s.drop (A.getD x 0) := by
  rcases Nat.lt_or_eq_of_le hxy with h | rfl
  · exact lt_asymm' (lt_list s s.length _ _ (sorted_n s hS x y h (by rw [hS.length]; exact hy)))
  · exact List.lt_irrefl _
/-- the ends below the pattern stand first -/
theorem below_first {A : List Nat} (hS : Sorted s A) (p : List UInt8) (x y : Nat) (hxy : x ≤ y) (hy : y < s.length) (h : Lib.compareBytes (s.drop (A.getD y 0)) p < 0) : Lib.compareBytes (s.drop (A.getD x 0)) p < 0 := by
  rw [cmp_lt] at h ⊢
  rcases Nat.lt_or_eq_of_le hxy with h1 | rfl
  · exact lt_trans' (lt_list s s.length _ _ (sorted_n s hS x y h1 (by rw [hS.length]; exact hy))) h
  · exact h
/-- the ends that begin with the pattern stand in a row behind those -/
theorem row_of {A : List Nat} (hS : Sorted s A) (p : List UInt8) (x y : Nat) (hxy : x ≤ y) (hy : y < s.length) (h0 : ¬ Lib.compareBytes (s.drop (A.getD x 0)) p < 0) (hp : p <+: s.drop (A.getD y 0)) : p <+: s.drop (A.getD x 0) := by
  rw [cmp_lt] at h0
  exact between p _ _ h0 (drop_le s hS x y hxy hy) hp
/-- how many stand below -/
theorem count_first : ∀ (L : List Nat) (f : Nat → Bool), (∀ x y, x ≤ y → y < L.length → f (L.getD y 0) = true → f (L.getD x 0) = true) → ∀ x, x < L.length → (f (L.getD x 0) = true ↔ x < L.countP f)
  | [], f, _, x, hx => absurd hx (by simp)
  | a :: L, f, hm, x, hx => by
    have hm' : ∀ x y, x ≤ y → y < L.length → f (L.getD y 0) = true → f (L.getD x 0) = true := fun x y h1 h2 h3 => by
      have := hm (x + 1) (y + 1) (by omega) (by simpa using h2) (by simpa using h3)
      simpa using this
    by_cases ha : f a = true
    · rw [List.countP_cons_of_pos ha]
      cases x with
      | zero => simp [ha]
      | succ x =>
        have := count_first L f hm' x (by simpa using hx)
        rw [List.getD_cons_succ, this]
        omega
    · have hall : ∀ b ∈ L, ¬ f b = true := by
        intro b hb h
        obtain ⟨i, hi, rfl⟩ := List.getElem_of_mem hb
        have := hm 0 (i + 1) (by omega) (by simpa using hi) (by rw [List.getD_cons_succ, List.getD_eq_getElem?_getD, List.getElem?_eq_getElem hi]; exact h)
        exact ha (by simpa using this)
      have hz : L.countP f = 0 := List.countP_eq_zero.2 hall
      rw [List.countP_cons_of_neg ha, hz]
      cases x with
      | zero => simp [ha]
      | succ x =>
        have hx' : x < L.length := by simpa using hx
        rw [List.getD_cons_succ, List.getD_eq_getElem?_getD, List.getElem?_eq_getElem hx']
        have := hall _ (List.getElem_mem hx')
        simp [this]
end Suf
end Go.Proofs.Ytenhblpegobbjaa
