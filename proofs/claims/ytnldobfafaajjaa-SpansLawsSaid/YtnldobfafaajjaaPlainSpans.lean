/- Plain law of package spans: sets of places as spans in a row. -/
import Derived.Test.YtnldobfafaajjaaCommon
namespace Go.Proofs.Ytnldobfafaajjaa
namespace Spans
set_option linter.unusedVariables false
set_option linter.unusedSimpArgs false
abbrev Sp := Int × Int
/-- a place is in one of them -/
def has (l : List Sp) (k : Int) : Bool := l.any fun x => decide (x.1 ≤ k) && decide (k < x.2)
theorem has_iff (l : List Sp) (k : Int) : has l k = true ↔ ∃ x ∈ l, x.1 ≤ k ∧ k < x.2 := by
  simp [has]
theorem has_cons (x : Sp) (l : List Sp) (k : Int) : has (x :: l) k = (decide (x.1 ≤ k) && decide (k < x.2) || has l k) := rfl
theorem has_append (l m : List Sp) (k : Int) : has (l ++ m) k = (has l k || has m k) := by simp [has]
theorem has_perm {l m : List Sp} (h : ∀ x, x ∈ l ↔ x ∈ m) (k : Int) : has l k = has m k := by
  rw [Bool.eq_iff_iff, has_iff, has_iff]
  simp only [h]
/-- in a row, all above a place -/
def rowed : Int → List Sp → Prop
  | _, [] => True
  | a, x :: t => a < x.1 ∧ x.1 < x.2 ∧ rowed x.2 t
instance decRowed : (a : Int) → (l : List Sp) → Decidable (rowed a l)
  | _, [] => isTrue trivial
  | a, x :: t => by
    have := decRowed x.2 t
    unfold rowed
    exact inferInstance
theorem rowed.above {a : Int} {l : List Sp} (h : rowed a l) : ∀ k, has l k = true → a < k := by
  induction l generalizing a with
  | nil => intro k hk; simp [has] at hk
  | cons x t ih =>
    obtain ⟨h1, h2, h3⟩ := h
    intro k hk
    rw [has_cons, Bool.or_eq_true, Bool.and_eq_true, decide_eq_true_eq, decide_eq_true_eq] at hk
    rcases hk with hk | hk
    · omega
    · have := ih h3 k hk; omega
theorem rowed.low {a b : Int} {l : List Sp} (h : rowed a l) (hb : b ≤ a) : rowed b l := by
  cases l with
  | nil => trivial
  | cons x t => exact ⟨by have := h.1; omega, h.2⟩
/-- JUST ONE WAY. -/
theorem rowed.uniq : ∀ {l m : List Sp} {a b : Int}, rowed a l → rowed b m → (∀ k, has l k = has m k) → l = m
  | [], [], _, _, _, _, _ => rfl
  | [], y :: t, _, _, _, hm, h => by
    have := h y.1
    rw [has_cons] at this
    have h2 := hm.2.1
    simp [has, h2] at this
  | x :: t, [], _, _, hl, _, h => by
    have := h x.1
    rw [has_cons] at this
    have h2 := hl.2.1
    simp [has, h2] at this
  | x :: t, y :: u, a, b, hl, hm, h => by
    obtain ⟨l1, l2, l3⟩ := hl
    obtain ⟨m1, m2, m3⟩ := hm
    have at_x : ∀ k, has t k = true → x.2 < k := l3.above
    have at_y : ∀ k, has u k = true → y.2 < k := m3.above
    have key : ∀ k, (decide (x.1 ≤ k) && decide (k < x.2) || has t k) = (decide (y.1 ≤ k) && decide (k < y.2) || has u k) := fun k => by
      have := h k; rwa [has_cons, has_cons] at this
    have low : ∀ k, (decide (x.1 ≤ k) && decide (k < x.2) || has t k) = true → x.1 ≤ k := fun k hk => by
      rw [Bool.or_eq_true, Bool.and_eq_true, decide_eq_true_eq, decide_eq_true_eq] at hk
      rcases hk with hk | hk
      · exact hk.1
      · have := at_x k hk; omega
    have low' : ∀ k, (decide (y.1 ≤ k) && decide (k < y.2) || has u k) = true → y.1 ≤ k := fun k hk => by
      rw [Bool.or_eq_true, Bool.and_eq_true, decide_eq_true_eq, decide_eq_true_eq] at hk
      rcases hk with hk | hk
      · exact hk.1
      · have := at_y k hk; omega
    have e1 : x.1 = y.1 := by
      have p1 := low' x.1 (by rw [← key]; simp [l2])
      have p2 := low y.1 (by rw [key]; simp [m2])
      omega
    have not_x : (decide (x.1 ≤ x.2) && decide (x.2 < x.2) || has t x.2) = false := by
      rw [Bool.or_eq_false_iff]
      refine ⟨by simp, ?_⟩
      cases hq : has t x.2 with
      | false => rfl
      | true => have := at_x _ hq; omega
    have not_y : (decide (y.1 ≤ y.2) && decide (y.2 < y.2) || has u y.2) = false := by
      rw [Bool.or_eq_false_iff]
      refine ⟨by simp, ?_⟩
      cases hq : has u y.2 with
      | false => rfl
      | true => have := at_y _ hq; omega
    have e2 : x.2 = y.2 := by
      rcases Int.lt_trichotomy x.2 y.2 with hlt | he | hgt
      · exfalso
        rw [key] at not_x
        rw [Bool.or_eq_false_iff, Bool.and_eq_false_iff, decide_eq_false_iff_not, decide_eq_false_iff_not] at not_x
        omega
      · exact he
      · exfalso
        rw [← key] at not_y
        rw [Bool.or_eq_false_iff, Bool.and_eq_false_iff, decide_eq_false_iff_not, decide_eq_false_iff_not] at not_y
        omega
    have exy : x = y := Prod.ext e1 e2
    subst exy
    have := rowed.uniq l3 m3 (fun k => by
      have hk := key k
      cases ht : has t k with
      | true =>
        have := at_x k ht
        rw [ht] at hk
        have d : decide (k < x.2) = false := by rw [decide_eq_false_iff_not]; omega
        rw [d] at hk
        simpa using hk
      | false =>
        cases hu : has u k with
        | false => rfl
        | true =>
          have := at_y k hu
          rw [ht, hu] at hk
          have d : decide (k < x.2) = false := by rw [decide_eq_false_iff_not]; omega
          rw [d] at hk
          simp at hk)
    rw [this]

/-- What Of answers: in a row from 0 on, the same places from 0 on. -/
def Norm (l m : List Sp) : Prop := rowed (-1) m ∧ ∀ k, 0 ≤ k → has m k = has l k
theorem Norm.uniq {l m n : List Sp} (h : Norm l m) (g : Norm l n) : m = n := by
  refine h.1.uniq g.1 fun k => ?_
  by_cases hk : 0 ≤ k
  · rw [h.2 k hk, g.2 k hk]
  · have p : has m k = false := by cases hq : has m k with
      | false => rfl
      | true => have := h.1.above k hq; omega
    have q : has n k = false := by cases hq : has n k with
      | false => rfl
      | true => have := g.1.above k hq; omega
    rw [p, q]
theorem Norm.self {m : List Sp} (h : rowed (-1) m) : Norm m m := ⟨h, fun _ _ => rfl⟩

/-- What is kept of one span. -/
def clamp (x : Sp) : Option Sp := if max x.1 0 < x.2 then some (max x.1 0, x.2) else none
theorem clamp_has (l : List Sp) (k : Int) (hk : 0 ≤ k) : has (l.filterMap clamp) k = has l k := by
  induction l with
  | nil => rfl
  | cons x l ih =>
    by_cases h : max x.1 0 < x.2
    · have e : clamp x = some (max x.1 0, x.2) := if_pos h
      rw [List.filterMap_cons, e]
      simp only []
      rw [has_cons, has_cons, ih]
      congr 1
      have : decide (max x.1 0 ≤ k) = decide (x.1 ≤ k) := by
        rw [Bool.eq_iff_iff, decide_eq_true_eq, decide_eq_true_eq]; omega
      simp only [this]
    · have e : clamp x = none := if_neg h
      rw [List.filterMap_cons, e, has_cons]
      simp only []
      rw [ih]
      have : (decide (x.1 ≤ k) && decide (k < x.2)) = false := by
        rw [Bool.and_eq_false_iff, decide_eq_false_iff_not, decide_eq_false_iff_not]; omega
      rw [this, Bool.false_or]
theorem clamp_fine (l : List Sp) : ∀ x ∈ l.filterMap clamp, 0 ≤ x.1 ∧ x.1 < x.2 := by
  intro x hx
  obtain ⟨y, _, hy⟩ := List.mem_filterMap.mp hx
  unfold clamp at hy
  split at hy
  · cases hy; simp only []; omega
  · cases hy

/-- Taking up spans in their order, one by one. -/
structure Taken (pre rest m : List Sp) : Prop where
  row : rowed (-1) m
  same : ∀ k, has m k = has pre k
  order : ∀ x ∈ m, ∀ y ∈ rest, x.1 ≤ y.1

theorem rowed_snoc {a : Int} {m : List Sp} {y : Sp} (h : rowed a m) (hy : y.1 < y.2) (ha : a < y.1) (hl : ∀ x, m.getLast? = some x → x.2 < y.1) : rowed a (m ++ [y]) := by
  induction m generalizing a with
  | nil => exact ⟨ha, hy, trivial⟩
  | cons x t ih =>
    obtain ⟨h1, h2, h3⟩ := h
    refine ⟨h1, h2, ih h3 ?_ ?_⟩
    · cases t with
      | nil => exact hl x rfl
      | cons z u =>
        have : ∃ q, (z :: u).getLast? = some q := ⟨_, List.getLast?_eq_some_getLast (by simp)⟩
        obtain ⟨q, hq⟩ := this
        have h4 := hl q (by rw [List.getLast?_cons_cons]; exact hq)
        have hmem : q ∈ (z :: u) := List.mem_of_getLast? hq
        have : has (z :: u) q.1 = true ∨ True := .inr trivial
        have hab : ∀ (b : Int) (l : List Sp), rowed b l → ∀ q ∈ l, b < q.1 ∧ q.1 < q.2 := by
          intro b l
          induction l generalizing b with
          | nil => intro _ q hq; cases hq
          | cons w l ihl =>
            intro hr q hq
            rcases List.mem_cons.mp hq with rfl | hq
            · exact ⟨hr.1, hr.2.1⟩
            · have h5 := ihl _ hr.2.2 q hq
              have h6 := hr.1
              have h7 := hr.2.1
              exact ⟨by omega, h5.2⟩
        have := hab _ _ h3 q hmem
        omega
    · intro q hq
      cases t with
      | nil => cases hq
      | cons z u => exact hl q (by rw [List.getLast?_cons_cons]; exact hq)
theorem rowed_wider {a : Int} {m : List Sp} {f t u : Int} (h : rowed a (m ++ [(f, t)])) (hu : t ≤ u) : rowed a (m ++ [(f, u)]) := by
  induction m generalizing a with
  | nil => exact ⟨h.1, by have := h.2.1; simp only [] at this ⊢; omega, trivial⟩
  | cons x m ih => exact ⟨h.1, h.2.1, ih h.2.2⟩

theorem Taken.start {rest : List Sp} : Taken [] rest [] := ⟨trivial, fun _ => rfl, fun x hx => by cases hx⟩
/-- a span that touches the last one -/
theorem Taken.wider {pre rest m : List Sp} {f t : Int} {y : Sp} (h : Taken pre (y :: rest) (m ++ [(f, t)])) (hs : ∀ z ∈ rest, y.1 ≤ z.1) (ht : y.1 ≤ t) : Taken (pre ++ [y]) rest (m ++ [(f, max t y.2)]) := by
  have hf := h.order (f, t) (by simp) y (by simp)
  refine ⟨rowed_wider h.row (by omega), fun k => ?_, fun x hx z hz => ?_⟩
  · have := h.same k
    rw [has_append] at this ⊢
    rw [has_append, ← this]
    have e : has [(f, max t y.2)] k = (has [(f, t)] k || has [y] k) := by
      rw [has_cons, has_cons, has_cons]
      simp only [has, List.any_nil, Bool.or_false]
      rw [Bool.eq_iff_iff]
      simp only [Bool.or_eq_true, Bool.and_eq_true, decide_eq_true_eq]
      simp only [] at hf
      omega
    rw [e, Bool.or_assoc]
  · rcases List.mem_append.mp hx with hx | hx
    · exact h.order x (by simp [hx]) z (by simp [hz])
    · rw [List.mem_singleton.mp hx]
      have := hs z hz
      simp only [] at hf ⊢
      omega
/-- one that does not -/
theorem Taken.next {pre rest m : List Sp} {y : Sp} (h : Taken pre (y :: rest) m) (hy : 0 ≤ y.1 ∧ y.1 < y.2) (hs : ∀ z ∈ rest, y.1 ≤ z.1) (hl : ∀ x, m.getLast? = some x → x.2 < y.1) : Taken (pre ++ [y]) rest (m ++ [y]) := by
  refine ⟨rowed_snoc h.row hy.2 (by omega) hl, fun k => ?_, fun x hx z hz => ?_⟩
  · rw [has_append, has_append, h.same k]
  · rcases List.mem_append.mp hx with hx | hx
    · exact h.order x hx z (by simp [hz])
    · rw [List.mem_singleton.mp hx]; exact hs z hz
theorem Taken.done {pre l m s : List Sp} (h : Taken s [] m) (hs : ∀ x, x ∈ s ↔ x ∈ l.filterMap clamp) : Norm l m :=
  ⟨h.row, fun k hk => by rw [h.same k, has_perm hs, clamp_has l k hk]⟩
end Spans
end Go.Proofs.Ytnldobfafaajjaa
