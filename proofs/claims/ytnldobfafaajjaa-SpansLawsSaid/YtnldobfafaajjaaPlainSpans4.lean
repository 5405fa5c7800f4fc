/- Plain law of package spans: spans as sets of places. -/
import Derived.Test.YtnldobfafaajjaaPlainSpans3
namespace Go.Proofs.Ytnldobfafaajjaa
namespace Spans
set_option linter.unusedVariables false
set_option linter.unusedSimpArgs false
/-- spans in a row that have just these places from 0 on -/
def Set (p : Int → Bool) (l : List Sp) : Prop := rowed (-1) l ∧ ∀ k, 0 ≤ k → has l k = p k
theorem Set.uniq {p q : Int → Bool} {l m : List Sp} (h : Set p l) (g : Set q m) (e : ∀ k, 0 ≤ k → p k = q k) : l = m :=
  Norm.uniq (l := l) (Norm.self h.1) ⟨g.1, fun k hk => by rw [g.2 k hk, h.2 k hk, e k hk]⟩
theorem Set.congr {p q : Int → Bool} {l : List Sp} (h : Set p l) (e : ∀ k, 0 ≤ k → p k = q k) : Set q l := ⟨h.1, fun k hk => by rw [h.2 k hk, e k hk]⟩
theorem Set.norm {l nl : List Sp} (h : Norm l nl) : Set (has l) nl := ⟨h.1, fun k hk => h.2 k hk⟩
theorem Set.and {l g nl ng : List Sp} (h : Norm l nl) (h' : Norm g ng) : Set (fun k => has l k && has g k) (andL nl ng) :=
  ⟨andL_row nl ng (-1) (-1) (-1) h.1 h'.1 (by omega), fun k hk => by rw [andL_has k nl ng (-1) (-1) h.1 h'.1, h.2 k hk, h'.2 k hk]⟩
theorem Set.not {l nl : List Sp} (N : Int) (h : Norm l nl) : Set (fun k => decide (k < N) && !has l k) (notL N 0 nl) :=
  ⟨notL_row N nl 0 (-1) (-1) h.1 (by omega) (by omega), fun k hk => by rw [notL_has N k nl 0 (-1) h.1 (by omega), h.2 k hk, decide_eq_true hk, Bool.true_and]⟩
theorem Set.low {p : Int → Bool} {l : List Sp} (h : Set p l) (N : Int) (hN : 0 ≤ N) (hp : ∀ k, 0 ≤ k → p k = true → k < N) : ∀ x ∈ l, x.2 ≤ N := by
  intro x hx
  have hr : ∀ (b : Int) (l : List Sp), rowed b l → ∀ q ∈ l, b < q.1 ∧ q.1 < q.2 := by
    intro b l
    induction l generalizing b with
    | nil => intro _ q hq; cases hq
    | cons w l ihl =>
      intro hr q hq
      rcases List.mem_cons.mp hq with rfl | hq
      · exact ⟨hr.1, hr.2.1⟩
      · have h5 := ihl _ hr.2.2 q hq
        have h6 := hr.1
        have h7 := hr.2.1
        exact ⟨by omega, h5.2⟩
  obtain ⟨h1, h2⟩ := hr _ _ h.1 x hx
  have h3 : has l (x.2 - 1) = true := by rw [has_iff]; exact ⟨x, hx, by omega, by omega⟩
  have := hp (x.2 - 1) (by omega) (by rw [← h.2 _ (by omega)]; exact h3)
  omega
theorem Set.total {p : Int → Bool} {l : List Sp} (h : Set p l) (n : Nat) (hp : ∀ k, 0 ≤ k → p k = true → k < (n : Int)) : total l = cnt p n := by
  rw [total_cnt n l (-1) h.1 (by omega) (h.low n (by omega) hp)]
  exact cnt_congr n fun k hk _ => h.2 k hk
theorem cnt_bound (f : Int → Bool) : ∀ n : Nat, 0 ≤ cnt f n ∧ cnt f n ≤ n
  | 0 => by simp [cnt]
  | n + 1 => by
    have ih := cnt_bound f n
    simp only [cnt]
    split <;> omega
end Spans
end Go.Proofs.Ytnldobfafaajjaa
