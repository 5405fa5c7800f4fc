/- Plain law of package spans: how many places. -/
import Derived.Test.YtnldobfafaajjaaPlainSpans2
namespace Go.Proofs.Ytnldobfafaajjaa
namespace Spans
set_option linter.unusedVariables false
set_option linter.unusedSimpArgs false
/-- how many places below n -/
def cnt (f : Int → Bool) : Nat → Int
  | 0 => 0
  | n + 1 => cnt f n + if f n then 1 else 0
theorem cnt_congr {f g : Int → Bool} : ∀ (n : Nat), (∀ k : Int, 0 ≤ k → k < n → f k = g k) → cnt f n = cnt g n
  | 0, _ => rfl
  | n + 1, h => by
    rw [cnt, cnt, cnt_congr n (fun k h1 h2 => h k h1 (by omega)), h n (by omega) (by omega)]
theorem cnt_both (f g : Int → Bool) : ∀ n : Nat, cnt f n + cnt g n = cnt (fun k => f k || g k) n + cnt (fun k => f k && g k) n
  | 0 => rfl
  | n + 1 => by
    have ih := cnt_both f g n
    simp only [cnt]
    by_cases h1 : f n = true <;> by_cases h2 : g n = true <;> simp [h1, h2] <;> omega
theorem cnt_not (f : Int → Bool) : ∀ n : Nat, cnt f n + cnt (fun k => !f k) n = n
  | 0 => rfl
  | n + 1 => by
    have ih := cnt_not f n
    simp only [cnt]
    by_cases h1 : f n = true <;> simp [h1] <;> omega
theorem cnt_none : ∀ n : Nat, cnt (fun _ => false) n = 0
  | 0 => rfl
  | n + 1 => by rw [cnt, cnt_none n]; rfl
theorem cnt_from (a b : Int) (ha : 0 ≤ a) (hab : a ≤ b) : ∀ n : Nat, cnt (fun k => decide (a ≤ k) && decide (k < b)) n = min b n - min a n
  | 0 => by simp only [cnt]; omega
  | n + 1 => by
    rw [cnt, cnt_from a b ha hab n]
    by_cases h1 : a ≤ (n : Int)
    · by_cases h2 : (n : Int) < b
      · simp only [decide_eq_true h1, decide_eq_true h2, Bool.and_self, if_true]; omega
      · simp only [decide_eq_false h2, Bool.and_false, Bool.false_eq_true, if_false]; omega
    · simp only [decide_eq_false h1, Bool.false_and, Bool.false_eq_true, if_false]; omega
def total (l : List Sp) : Int := (l.map fun x => x.2 - x.1).sum
theorem total_cnt (n : Nat) : ∀ (l : List Sp) (a : Int), rowed a l → -1 ≤ a → (∀ x ∈ l, x.2 ≤ n) → total l = cnt (has l) n
  | [], a, _, _, _ => by
    have : has [] = fun _ => false := rfl
    rw [this, cnt_none]; rfl
  | x :: t, a, hr, ha, hn => by
    obtain ⟨h1, h2, h3⟩ := hr
    have ih := total_cnt n t x.2 h3 (by omega) (fun y hy => hn y (by simp [hy]))
    have hx := hn x (by simp)
    have hb := cnt_both (fun k => decide (x.1 ≤ k) && decide (k < x.2)) (has t) n
    have hc := cnt_from x.1 x.2 (by omega) (by omega) n
    have hz : cnt (fun k => (decide (x.1 ≤ k) && decide (k < x.2)) && has t k) n = 0 := by
      rw [← cnt_none n]
      refine cnt_congr n fun k _ _ => ?_
      cases hv : has t k with
      | false => simp
      | true => have := h3.above k hv; rw [Bool.and_true, Bool.and_eq_false_iff, decide_eq_false_iff_not, decide_eq_false_iff_not]; omega
    have he : cnt (has (x :: t)) n = cnt (fun k => (decide (x.1 ≤ k) && decide (k < x.2)) || has t k) n := rfl
    have ht : total (x :: t) = (x.2 - x.1) + total t := by simp [total]
    rw [ht, he]
    omega
end Spans
end Go.Proofs.Ytnldobfafaajjaa
