/- Plain law of package spans: Not, And. -/
import Derived.Test.YtnldobfafaajjaaPlainSpans
namespace Go.Proofs.Ytnldobfafaajjaa
namespace Spans
set_option linter.unusedVariables false
set_option linter.unusedSimpArgs false
/-- what is not in them, from a place on up to n -/
def notL (n : Int) : Int → List Sp → List Sp
  | a, [] => if a < n then [(a, n)] else []
  | a, x :: t => if n ≤ x.1 then (if a < n then [(a, n)] else []) else (if a < x.1 then [(a, x.1)] else []) ++ notL n x.2 t
theorem notL_row (n : Int) : ∀ (l : List Sp) (a b c : Int), rowed b l → a ≤ b + 1 → c < a → rowed c (notL n a l)
  | [], a, b, c, _, _, hc => by
    unfold notL
    by_cases h : a < n
    · rw [if_pos h]; exact ⟨hc, h, trivial⟩
    · rw [if_neg h]; trivial
  | x :: t, a, b, c, hr, ha, hc => by
    obtain ⟨h1, h2, h3⟩ := hr
    unfold notL
    by_cases h : n ≤ x.1
    · rw [if_pos h]
      by_cases h : a < n
      · rw [if_pos h]; exact ⟨hc, h, trivial⟩
      · rw [if_neg h]; trivial
    · rw [if_neg h]
      by_cases h : a < x.1
      · rw [if_pos h]
        exact ⟨hc, h, notL_row n t x.2 x.2 x.1 h3 (by omega) h2⟩
      · rw [if_neg h, List.nil_append]
        exact notL_row n t x.2 x.2 c h3 (by omega) (by omega)
theorem notL_has (n k : Int) : ∀ (l : List Sp) (a b : Int), rowed b l → a ≤ b + 1 → has (notL n a l) k = (decide (a ≤ k) && decide (k < n) && !has l k)
  | [], a, b, _, _ => by
    unfold notL
    by_cases h : a < n
    · rw [if_pos h]; simp [has]
    · rw [if_neg h, Bool.eq_iff_iff]; simp [has]; omega
  | x :: t, a, b, hr, ha => by
    obtain ⟨h1, h2, h3⟩ := hr
    have hab := h3.above k
    unfold notL
    by_cases h : n ≤ x.1
    · rw [if_pos h]
      have e : has (if a < n then [(a, n)] else []) k = (decide (a ≤ k) && decide (k < n)) := by
        by_cases h : a < n
        · rw [if_pos h]; simp [has]
        · rw [if_neg h, Bool.eq_iff_iff]; simp [has]; omega
      rw [e, has_cons, Bool.eq_iff_iff]
      simp only [Bool.and_eq_true, Bool.not_eq_true', Bool.or_eq_false_iff, Bool.and_eq_false_iff, decide_eq_true_eq, decide_eq_false_iff_not]
      constructor
      · rintro ⟨p, q⟩
        refine ⟨⟨p, q⟩, .inl (by omega), ?_⟩
        cases ht : has t k with
        | false => rfl
        | true => have := hab ht; omega
      · rintro ⟨⟨p, q⟩, _⟩; exact ⟨p, q⟩
    · rw [if_neg h, has_append, notL_has n k t x.2 x.2 h3 (by omega)]
      have e : has (if a < x.1 then [(a, x.1)] else []) k = (decide (a ≤ k) && decide (k < x.1)) := by
        by_cases h : a < x.1
        · rw [if_pos h]; simp [has]
        · rw [if_neg h, Bool.eq_iff_iff]; simp [has]; omega
      rw [e, has_cons, Bool.eq_iff_iff]
      simp only [Bool.or_eq_true, Bool.and_eq_true, Bool.not_eq_true', Bool.or_eq_false_iff, Bool.and_eq_false_iff, decide_eq_true_eq, decide_eq_false_iff_not]
      constructor
      · rintro (⟨p, q⟩ | ⟨⟨p, q⟩, r⟩)
        · refine ⟨⟨p, by omega⟩, .inl (by omega), ?_⟩
          cases ht : has t k with
          | false => rfl
          | true => have := hab ht; omega
        · exact ⟨⟨by omega, q⟩, .inr (by omega), r⟩
      · rintro ⟨⟨p, q⟩, r, u⟩
        by_cases hk : k < x.1
        · exact .inl ⟨p, hk⟩
        · exact .inr ⟨⟨by omega, q⟩, u⟩
/-- what is in both -/
def andL : List Sp → List Sp → List Sp
  | [], _ => []
  | _ :: _, [] => []
  | x :: a, y :: b => (if max x.1 y.1 < min x.2 y.2 then [(max x.1 y.1, min x.2 y.2)] else []) ++ if x.2 < y.2 then andL a (y :: b) else andL (x :: a) b
termination_by a b => a.length + b.length
theorem andL_row (a b : List Sp) : ∀ (p q c : Int), rowed p a → rowed q b → c ≤ max p q → rowed c (andL a b) := by
  fun_induction andL a b with
  | case1 b => intro p q c _ _ _; trivial
  | case2 x a => intro p q c _ _ _; trivial
  | case3 x a y b ih1 ih2 =>
    intro p q c ha hb hc
    have ha' := ha
    have hb' := hb
    obtain ⟨a1, a2, a3⟩ := ha
    obtain ⟨b1, b2, b3⟩ := hb
    by_cases h : max x.1 y.1 < min x.2 y.2
    · rw [if_pos h]
      refine ⟨by show c < max x.1 y.1; omega, h, ?_⟩
      show rowed (min x.2 y.2) _
      by_cases hlt : x.2 < y.2
      · rw [if_pos hlt]; exact ih1 x.2 q _ a3 hb' (by omega)
      · rw [if_neg hlt]; exact ih2 p y.2 _ ha' b3 (by omega)
    · rw [if_neg h, List.nil_append]
      by_cases hlt : x.2 < y.2
      · rw [if_pos hlt]; exact ih1 x.2 q _ a3 hb' (by omega)
      · rw [if_neg hlt]; exact ih2 p y.2 _ ha' b3 (by omega)
theorem andL_has (k : Int) (a b : List Sp) : ∀ (p q : Int), rowed p a → rowed q b → has (andL a b) k = (has a k && has b k) := by
  fun_induction andL a b with
  | case1 b => intro p q _ _; simp [has]
  | case2 x a => intro p q _ _; simp [has]
  | case3 x a y b ih1 ih2 =>
    intro p q ha hb
    have ha' := ha
    have hb' := hb
    obtain ⟨a1, a2, a3⟩ := ha
    obtain ⟨b1, b2, b3⟩ := hb
    have ka := a3.above k
    have kb := b3.above k
    have e : has (if max x.1 y.1 < min x.2 y.2 then [(max x.1 y.1, min x.2 y.2)] else []) k = ((decide (x.1 ≤ k) && decide (k < x.2)) && (decide (y.1 ≤ k) && decide (k < y.2))) := by
      by_cases h : max x.1 y.1 < min x.2 y.2
      · rw [if_pos h, Bool.eq_iff_iff]; simp [has]; omega
      · rw [if_neg h, Bool.eq_iff_iff]; simp [has]; omega
    rw [has_append, e]
    by_cases hlt : x.2 < y.2
    · rw [if_pos hlt, ih1 x.2 q a3 hb', has_cons y b, has_cons x a]
      have f : (decide (x.1 ≤ k) && decide (k < x.2) && has b k) = false := by
        cases hv : has b k with
        | false => simp
        | true => have := kb hv; rw [Bool.and_true, Bool.and_eq_false_iff, decide_eq_false_iff_not, decide_eq_false_iff_not]; omega
      generalize (decide (x.1 ≤ k) && decide (k < x.2)) = u at *
      generalize (decide (y.1 ≤ k) && decide (k < y.2)) = v at *
      revert f
      cases u <;> cases v <;> cases has a k <;> cases has b k <;> simp
    · rw [if_neg hlt, ih2 p y.2 ha' b3, has_cons y b, has_cons x a]
      have f : (decide (y.1 ≤ k) && decide (k < y.2) && has a k) = false := by
        cases hv : has a k with
        | false => simp
        | true => have := ka hv; rw [Bool.and_true, Bool.and_eq_false_iff, decide_eq_false_iff_not, decide_eq_false_iff_not]; omega
      generalize (decide (x.1 ≤ k) && decide (k < x.2)) = u at *
      generalize (decide (y.1 ≤ k) && decide (k < y.2)) = v at *
      revert f
      cases u <;> cases v <;> cases has a k <;> cases has b k <;> simp
end Spans
end Go.Proofs.Ytnldobfafaajjaa
