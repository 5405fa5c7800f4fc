/- Plain law: the least number of bytes, by the longest text that both have; what edits cost. -/
import Derived.Test.YtmmkbjinkdgdbaaPlainBoth
import Derived.Test.YtmmkbjinkdgdbaaPlainDiff
namespace Go.Proofs.Ytmmkbjinkdgdbaa
namespace Diff
set_option linter.unusedVariables false
set_option linter.unusedSimpArgs false
theorem lg_more : ∀ (n : Nat) (a b : List UInt8), a.length + b.length ≤ n → (∀ x, lg a b ≤ lg (x :: a) b ∧ lg (x :: a) b ≤ lg a b + 1) ∧ ∀ y, lg a b ≤ lg a (y :: b) ∧ lg a (y :: b) ≤ lg a b + 1 := by
  intro n
  induction n with
  | zero =>
    intro a b h
    have h1 : a = [] := List.length_eq_zero_iff.1 (by omega)
    have h2 : b = [] := List.length_eq_zero_iff.1 (by omega)
    subst h1 h2
    exact ⟨fun x => by simp [lg], fun y => by simp [lg]⟩
  | succ n ih =>
    intro a b h
    constructor
    · intro x
      cases b with
      | nil => simp [lg, lg_nil]
      | cons y b =>
        obtain ⟨p1, p2⟩ := ih a b (by simp at h; omega)
        have q1 := p1 x
        have q2 := p2 y
        rw [lg]
        split <;> omega
    · intro y
      cases a with
      | nil => simp [lg]
      | cons x a =>
        obtain ⟨p1, p2⟩ := ih a b (by simp at h; omega)
        have q1 := p1 x
        have q2 := p2 y
        rw [lg.eq_3]
        split <;> omega
theorem made_lg (a b : List UInt8) : ∃ d, Made a b d ∧ d + 2 * lg a b = a.length + b.length := by
  fun_induction lg a b with
  | case1 b => exact ⟨([] : List UInt8).length + b.length, Made.all _ _, by simp⟩
  | case2 x a => exact ⟨(x :: a).length + ([] : List UInt8).length, Made.all _ _, by simp⟩
  | case3 x a b ih =>
    obtain ⟨d, h, e⟩ := ih
    exact ⟨d, .keep _ h, by simp only [List.length_cons]; omega⟩
  | case4 x a y b h ih1 ih2 =>
    obtain ⟨d, h1, e1⟩ := ih1
    obtain ⟨f, h2, e2⟩ := ih2
    simp only [List.length_cons] at e1 e2 ⊢
    by_cases hm : lg (x :: a) b ≤ lg a (y :: b)
    · exact ⟨d + 1, .take x h1, by omega⟩
    · exact ⟨f + 1, .give y h2, by omega⟩
theorem made_low {a b : List UInt8} {d : Nat} (h : Made a b d) : a.length + b.length ≤ d + 2 * lg a b := by
  induction h with
  | nil => simp
  | keep x _ ih => rw [lg.eq_3, if_pos rfl]; simp only [List.length_cons]; omega
  | @take a b d x _ ih =>
    have := (lg_more _ a b (Nat.le_refl _)).1 x
    simp only [List.length_cons]; omega
  | @give a b d y _ ih =>
    have := (lg_more _ a b (Nat.le_refl _)).2 y
    simp only [List.length_cons]; omega
theorem Least.lg {a b : List UInt8} {d : Nat} (h : Least a b d) : d + 2 * Diff.lg a b = a.length + b.length := by
  obtain ⟨e, h1, h2⟩ := made_lg a b
  have := h.2 e h1
  have := made_low h.1
  omega
/-- bytes left out and put in by one edit -/
def costE (e : Ed) : Nat := e.text.length + if e.what = 2 then e.n else 0
def cost (l : List Ed) : Nat := (l.map costE).sum
theorem cost_append (l m : List Ed) : cost (l ++ m) = cost l + cost m := by simp [cost]
theorem cost_cons (e : Ed) (l : List Ed) : cost (e :: l) = costE e + cost l := by simp [cost]
theorem addE_cost (l : List Ed) (e : Ed) : cost (addE l e) = cost l + costE e := by
  rcases snoc_cases l with rfl | ⟨m, f, rfl⟩
  · rw [addE_nil]; simp [cost]
  · by_cases h : f.what = e.what
    · rw [addE_same _ _ _ h, cost_append, cost_append]
      simp only [cost, costE, List.map_cons, List.map_nil, List.sum_cons, List.sum_nil, List.length_append]
      rw [h]
      split <;> omega
    · rw [addE_other _ _ _ h, cost_append]
      simp [cost]
theorem fold_cost (r : List Ed) : ∀ l : List Ed, cost (r.foldl addE l) = cost l + cost r := by
  induction r with
  | nil => intro l; simp [cost]
  | cons e r ih => intro l; rw [List.foldl_cons, ih, addE_cost, cost_cons]; omega
theorem raw_cost (a b : List UInt8) : cost (raw a b) + 2 * lg a b = a.length + b.length := by
  fun_induction raw a b with
  | case1 => simp [cost, lg]
  | case2 x a ih => rw [cost_cons, lg_nil]; rw [lg_nil] at ih; simp only [costE, List.length_cons, List.length_nil] at ih ⊢; simp; omega
  | case3 y b ih => rw [cost_cons]; simp only [costE, List.length_cons, List.length_nil, lg] at ih ⊢; simp; omega
  | case4 x a b ih => rw [cost_cons, lg.eq_3, if_pos rfl]; simp only [costE, List.length_cons, List.length_nil] at ih ⊢; simp; omega
  | case5 x a y b h hl ih => rw [cost_cons, lg.eq_3, if_neg h, Nat.max_eq_left hl]; simp only [costE, List.length_cons, List.length_nil] at ih ⊢; simp; omega
  | case6 x a y b h hl ih => rw [cost_cons, lg.eq_3, if_neg h, Nat.max_eq_right (by omega)]; simp only [costE, List.length_cons, List.length_nil] at ih ⊢; simp; omega
theorem edits_cost (a b : List UInt8) : cost (edits a b) + 2 * lg a b = a.length + b.length := by
  unfold edits
  rw [fold_cost]
  have := raw_cost a b
  simp only [rawAt, List.drop_zero, cost, List.map_nil, List.sum_nil, Nat.zero_add] at this ⊢
  exact this
/-- by as few bytes as can be -/
theorem edits_least {a b : List UInt8} {d : Nat} (h : Least a b d) : cost (edits a b) = d := by
  have := edits_cost a b
  have := h.lg
  omega
theorem fact_edits : (edits [97, 98, 99, 100] [97, 120, 99, 100, 101]).length = 5 := by
  simp [edits, rawAt, raw, lg, addE]
theorem fact_lg : lg [97, 98, 99, 100] [97, 120, 99, 100, 101] = 3 := by
  simp [lg]
theorem fact_both : mergeB [111, 110, 101, 32, 116, 119, 111] (chs (edits [111, 110, 101, 32, 116, 119, 111] [49, 32, 116, 119, 111])) (chs (edits [111, 110, 101, 32, 116, 119, 111] [111, 110, 101, 32, 50])) 0 [] = some [49, 32, 50] := by
  simp [edits, rawAt, raw, lg, addE, chs, stepC, ext, mergeB, sub]
end Diff
end Go.Proofs.Ytmmkbjinkdgdbaa
