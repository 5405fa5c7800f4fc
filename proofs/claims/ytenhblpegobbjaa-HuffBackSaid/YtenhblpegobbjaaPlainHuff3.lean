/- Huffman's lengths: Kraft's sum, and that no others cost less. No program in sight. -/
import Derived.Test.YtenhblpegobbjaaPlainHuff2
namespace Go.Proofs.Ytenhblpegobbjaa
set_option linter.unusedVariables false
set_option linter.unusedSimpArgs false
namespace Huff
/-- what so many things cost by so many bits -/
def cost (C D : List Nat) : Nat := ((List.range C.length).map fun i => C.getD i 0 * D.getD i 0).sum
/-- what the joinings cost -/
def mcost : Nat → List Grp → Nat → Nat
  | 0, _, _ => 0
  | f + 1, l, made => match isort l with
    | x :: y :: r => (x.n + y.n) + mcost f (r ++ [⟨x.n + y.n, made, x.of ++ y.of⟩]) (made + 1)
    | _ => 0
/-- weights with lengths -/
def pcost (P : List (Nat × Nat)) : Nat := (P.map fun p => p.1 * p.2).sum
def pkraft (M : Nat) (P : List (Nat × Nat)) : Nat := (P.map fun p => 2 ^ (M - p.2)).sum
theorem pcost_perm {P Q : List (Nat × Nat)} (h : P.Perm Q) : pcost P = pcost Q := (h.map _).sum_nat
theorem pkraft_perm {M : Nat} {P Q : List (Nat × Nat)} (h : P.Perm Q) : pkraft M P = pkraft M Q := (h.map _).sum_nat
theorem exists_max : ∀ (P : List (Nat × Nat)), P ≠ [] → ∃ p ∈ P, ∀ q ∈ P, q.2 ≤ p.2 := by
  intro P
  induction P with
  | nil => intro h; exact absurd rfl h
  | cons p P ih =>
    intro _
    by_cases h : P = []
    · subst h; exact ⟨p, List.mem_cons_self, fun q hq => by simp at hq; subst hq; exact Nat.le_refl _⟩
    · obtain ⟨m, hm, hx⟩ := ih h
      by_cases hle : m.2 ≤ p.2
      · refine ⟨p, List.mem_cons_self, fun q hq => ?_⟩
        rw [List.mem_cons] at hq
        rcases hq with rfl | hq
        · exact Nat.le_refl _
        · exact Nat.le_trans (hx q hq) hle
      · refine ⟨m, List.mem_cons_of_mem _ hm, fun q hq => ?_⟩
        rw [List.mem_cons] at hq
        rcases hq with rfl | hq
        · omega
        · exact hx q hq
theorem perm_of_mem {α : Type} {x : α} : ∀ {l : List α}, x ∈ l → ∃ m, l.Perm (x :: m) := by
  intro l
  induction l with
  | nil => intro h; simp at h
  | cons y l ih =>
    intro h
    rw [List.mem_cons] at h
    rcases h with rfl | h
    · exact ⟨l, .refl _⟩
    · obtain ⟨m, hm⟩ := ih h
      exact ⟨y :: m, (hm.cons y).trans (.swap x y m)⟩
theorem swap_cost (a w k L : Nat) (h1 : a ≤ w) (h2 : k ≤ L) : a * L + w * k ≤ w * L + a * k := by
  obtain ⟨d, rfl⟩ := Nat.exists_eq_add_of_le h1
  obtain ⟨e, rfl⟩ := Nat.exists_eq_add_of_le h2
  simp only [Nat.add_mul, Nat.mul_add]
  omega
/-- the least weight may have the greatest length -/
theorem front (M a : Nat) (r : List Nat) (P : List (Nat × Nat)) (hp : (P.map Prod.fst).Perm (a :: r)) (ha : ∀ b ∈ r, a ≤ b) :
    ∃ L Q, (Q.map Prod.fst).Perm r ∧ (∀ q ∈ Q, q.2 ≤ L) ∧ pkraft M P = 2 ^ (M - L) + pkraft M Q ∧ a * L + pcost Q ≤ pcost P ∧ (∃ p ∈ P, p.2 = L) ∧ ∀ q ∈ Q, ∃ p ∈ P, p.2 = q.2 := by
  have hne : P ≠ [] := by intro h; subst h; exact absurd hp.nil_eq (by simp)
  obtain ⟨⟨w, L⟩, hm, hx⟩ := exists_max P hne
  obtain ⟨Q, hQ⟩ := perm_of_mem hm
  have hw := (hQ.map Prod.fst).symm.trans hp
  simp only [List.map_cons] at hw
  by_cases hwa : w = a
  · subst hwa
    refine ⟨L, Q, hw.cons_inv, fun q hq => hx q (hQ.mem_iff.2 (List.mem_cons_of_mem _ hq)), ?_, ?_, ⟨_, hm, rfl⟩, fun q hq => ⟨q, hQ.mem_iff.2 (List.mem_cons_of_mem _ hq), rfl⟩⟩
    · rw [pkraft_perm hQ]; simp [pkraft]
    · rw [pcost_perm hQ]; simp [pcost]
  · have h1 : a ∈ Q.map Prod.fst := by
      have := hw.mem_iff (a := a)
      simp only [List.mem_cons, true_or, iff_true] at this
      rcases this with h | h
      · exact absurd h.symm hwa
      · exact h
    obtain ⟨⟨a', k⟩, hk, rfl⟩ := List.mem_map.1 h1
    simp only [] at hwa hw ha
    obtain ⟨Q', hQ'⟩ := perm_of_mem hk
    have h2 : (Q.map Prod.fst).Perm (a' :: Q'.map Prod.fst) := by simpa using hQ'.map Prod.fst
    have h3 : (w :: Q'.map Prod.fst).Perm r := by
      have : (a' :: w :: Q'.map Prod.fst).Perm (a' :: r) := (List.Perm.swap _ _ _).trans ((h2.symm.cons w).trans hw)
      exact this.cons_inv
    have hwr : w ∈ r := h3.mem_iff.1 List.mem_cons_self
    have hkL : k ≤ L := hx _ (hQ.mem_iff.2 (List.mem_cons_of_mem _ hk))
    have hall := hQ.trans (hQ'.cons _)
    refine ⟨L, (w, k) :: Q', by simpa using h3, ?_, ?_, ?_, ⟨_, hm, rfl⟩, ?_⟩
    · intro q hq
      rw [List.mem_cons] at hq
      rcases hq with rfl | hq
      · exact hkL
      · exact hx q (hall.mem_iff.2 (List.mem_cons_of_mem _ (List.mem_cons_of_mem _ hq)))
    · rw [pkraft_perm hall]; simp [pkraft]
    · rw [pcost_perm hall]
      have := swap_cost a' w k L (ha w hwr) hkL
      simp only [pcost, List.map_cons, List.sum_cons]
      omega
    · intro q hq
      rw [List.mem_cons] at hq
      rcases hq with rfl | hq
      · exact ⟨_, hQ.mem_iff.2 (List.mem_cons_of_mem _ hk), rfl⟩
      · exact ⟨q, hall.mem_iff.2 (List.mem_cons_of_mem _ (List.mem_cons_of_mem _ hq)), rfl⟩
theorem pkraft_dvd (M L : Nat) (hL : L ≤ M) : ∀ Q : List (Nat × Nat), (∀ q ∈ Q, q.2 ≤ L) → ∃ k, pkraft M Q = k * 2 ^ (M - L) := by
  intro Q
  induction Q with
  | nil => intro _; exact ⟨0, by simp [pkraft]⟩
  | cons q Q ih =>
    intro h
    obtain ⟨k, hk⟩ := ih fun p hp => h p (List.mem_cons_of_mem _ hp)
    have hq := h q List.mem_cons_self
    refine ⟨2 ^ (L - q.2) + k, ?_⟩
    show 2 ^ (M - q.2) + pkraft M Q = _
    rw [hk, Nat.add_mul, ← Nat.pow_add]
    congr 2
    omega
/-- NO OTHER LENGTHS COST LESS -/
theorem best (M : Nat) : ∀ f (l : List Grp) (made : Nat) (P : List (Nat × Nat)), l.length ≤ f → (P.map Prod.fst).Perm (l.map Grp.n) → pkraft M P ≤ 2 ^ M → (∀ p ∈ P, p.2 ≤ M) → mcost f l made ≤ pcost P := by
  intro f
  induction f with
  | zero => intro l made P _ _ _ _; exact Nat.zero_le _
  | succ f ih =>
    intro l made P hl hp hk hM
    have hsp := isort_perm l
    have hso := isort_sorted l
    have hlen := hsp.length_eq
    unfold mcost
    match hs : isort l with
    | [] => exact Nat.zero_le _
    | [x] => exact Nat.zero_le _
    | x :: y :: r =>
      simp only []
      rw [hs] at hsp hso hlen
      rw [List.pairwise_cons, List.pairwise_cons] at hso
      have hle : ∀ a b : Grp, a.le b = true → a.n ≤ b.n := fun a b h => by rw [Grp.le_iff] at h; omega
      have hw : (P.map Prod.fst).Perm (x.n :: y.n :: r.map Grp.n) := hp.trans (by simpa using (hsp.map Grp.n).symm)
      obtain ⟨L1, Q1, p1, m1, k1, c1, ⟨q0, hq0, e0⟩, s1⟩ := front M x.n (y.n :: r.map Grp.n) P hw (by
        intro b hb
        rw [List.mem_cons] at hb
        rcases hb with rfl | hb
        · exact hle _ _ (hso.1 y List.mem_cons_self)
        · obtain ⟨g, hg, rfl⟩ := List.mem_map.1 hb
          exact hle _ _ (hso.1 g (List.mem_cons_of_mem _ hg)))
      obtain ⟨L2, Q2, p2, m2, k2, c2, ⟨q1, hq1, e1⟩, s2⟩ := front M y.n (r.map Grp.n) Q1 p1 (by
        intro b hb
        obtain ⟨g, hg, rfl⟩ := List.mem_map.1 hb
        exact hle _ _ (hso.2.1 g hg))
      have hL1 : L1 ≤ M := by rw [← e0]; exact hM q0 hq0
      have hL21 : L2 ≤ L1 := by rw [← e1]; exact m1 q1 hq1
      obtain ⟨k, hkk⟩ := pkraft_dvd M L2 (by omega) Q2 m2
      have hU : 2 ^ M = 2 ^ L2 * 2 ^ (M - L2) := by rw [← Nat.pow_add]; congr 1; omega
      have hp1 : 0 < 2 ^ (M - L1) := Nat.pow_pos (by decide)
      have hpU : 0 < 2 ^ (M - L2) := Nat.pow_pos (by decide)
      rw [k1, k2, hkk, hU] at hk
      have h1 : (1 + k) * 2 ^ (M - L2) < 2 ^ L2 * 2 ^ (M - L2) := by rw [Nat.add_mul]; omega
      have h2 : 1 + k < 2 ^ L2 := Nat.lt_of_mul_lt_mul_right h1
      have hpos : 1 ≤ L2 := by
        rcases Nat.eq_zero_or_pos L2 with h | h
        · rw [h] at h2; simp at h2
        · exact h
      have h3 := ih (r ++ [⟨x.n + y.n, made, x.of ++ y.of⟩]) (made + 1) ((x.n + y.n, L2 - 1) :: Q2) (by simp at hlen ⊢; omega) (by
          simp only [List.map_cons, List.map_append, List.map_nil]
          exact (p2.cons _).trans (List.perm_append_comm (l₁ := [x.n + y.n]))) (by
          show 2 ^ (M - (L2 - 1)) + pkraft M Q2 ≤ 2 ^ M
          rw [hkk, show M - (L2 - 1) = (M - L2) + 1 from by omega, Nat.pow_succ, Nat.mul_comm _ 2, ← Nat.add_mul, hU]
          exact Nat.mul_le_mul_right _ (by omega)) (by
          intro p hp'
          rw [List.mem_cons] at hp'
          rcases hp' with rfl | hp'
          · show L2 - 1 ≤ M; omega
          · have := m2 p hp'; omega)
      have h4 : pcost ((x.n + y.n, L2 - 1) :: Q2) = (x.n + y.n) * (L2 - 1) + pcost Q2 := by simp [pcost]
      rw [h4] at h3
      have h5 : (x.n + y.n) * (L2 - 1) + (x.n + y.n) = (x.n + y.n) * L2 := by
        rw [← Nat.mul_succ]; congr 1; omega
      have h6 : x.n * L2 ≤ x.n * L1 := Nat.mul_le_mul_left _ hL21
      rw [Nat.add_mul x.n y.n L2] at h5
      omega
theorem cost_bump (C : List Nat) (of : List Nat) : ∀ D : List Nat, D.length = C.length → of.Nodup → (∀ i ∈ of, i < C.length) → cost C (bump D of) = cost C D + (of.map fun i => C.getD i 0).sum := by
  induction of with
  | nil => intro D _ _ _; simp [bump]
  | cons i of ih =>
    intro D hl hn hi
    rw [List.nodup_cons] at hn
    show cost C (bump (D.set i (D.getD i 0 + 1)) of) = _
    rw [ih _ (by rw [List.length_set]; exact hl) hn.2 (fun k hk => hi k (List.mem_cons_of_mem _ hk)), List.map_cons, List.sum_cons, ← Nat.add_assoc]
    congr 1
    have hlt := hi i List.mem_cons_self
    have key : ∀ n : Nat, ((List.range n).map fun j => C.getD j 0 * (D.set i (D.getD i 0 + 1)).getD j 0).sum = ((List.range n).map fun j => C.getD j 0 * D.getD j 0).sum + if i < n then C.getD i 0 else 0 := by
      intro n
      induction n with
      | zero => simp
      | succ n ihn =>
        rw [List.range_succ, List.map_append, List.map_append, List.sum_append, List.sum_append, ihn]
        simp only [List.map_cons, List.map_nil, List.sum_cons, List.sum_nil, Nat.add_zero]
        rw [getD_set _ _ _ _ (by omega)]
        by_cases e : i = n
        · subst e
          rw [if_pos rfl, if_neg (Nat.lt_irrefl _), if_pos (Nat.lt_succ_self _), Nat.mul_succ]
          omega
        · rw [if_neg e]
          by_cases h : i < n
          · rw [if_pos h, if_pos (by omega)]; omega
          · rw [if_neg h, if_neg (by omega), Nat.add_zero, Nat.add_zero]
    unfold cost
    rw [key, if_pos hlt]
theorem St.of_lt {C : List Nat} {T : Nat} {l : List Grp} {made : Nat} {D : List Nat} (h : St C T l made D) {g : Grp} (hg : g ∈ l) : ∀ i ∈ g.of, i < C.length ∧ 0 < C.getD i 0 := fun i hi => (h.mem i).1 (List.mem_flatMap.2 ⟨g, hg, hi⟩)
theorem cost_run (C : List Nat) (T : Nat) (hT : T ≤ 256) : ∀ f l made D, St C T l made D → cost C (run f l made D) = cost C D + mcost f l made := by
  intro f
  induction f with
  | zero => intro l made D _; rfl
  | succ f ih =>
    intro l made D h
    have h' := h.perm (isort_perm l).symm
    match hs : isort l with
    | [] => rw [run, mcost, hs]; rfl
    | [x] => rw [run, mcost, hs]; rfl
    | x :: y :: r =>
      rw [run_step f l made D x y r hs]
      unfold mcost
      rw [hs] at h' ⊢
      simp only []
      rw [ih _ _ _ (h'.step hT)]
      have hnd := h'.nodup
      simp only [List.flatMap_cons] at hnd
      rw [← List.append_assoc] at hnd
      rw [cost_bump C _ D h'.len (List.nodup_append.1 hnd).1 (by
        intro i hi
        rw [List.mem_append] at hi
        rcases hi with hi | hi
        · exact (h'.of_lt List.mem_cons_self i hi).1
        · exact (h'.of_lt (List.mem_cons_of_mem _ List.mem_cons_self) i hi).1)]
      rw [List.map_append, List.sum_append, h'.sum x List.mem_cons_self, h'.sum y (List.mem_cons_of_mem _ List.mem_cons_self)]
      omega
theorem cost_zero (C : List Nat) (n : Nat) : cost C (List.replicate n 0) = 0 := by
  unfold cost
  rw [sum_congr _ _ (fun _ => 0) (fun i _ => by rw [getD_replicate_zero, Nat.mul_zero])]
  have : ∀ l : List Nat, (l.map fun _ => 0).sum = 0 := by
    intro l
    induction l with
    | nil => rfl
    | cons x l ih => rw [List.map_cons, List.sum_cons, ih]
  exact this _
theorem sum_filter (l : List Nat) (p : Nat → Bool) (f : Nat → Nat) (h : ∀ i ∈ l, p i = false → f i = 0) : (l.map f).sum = ((l.filter p).map f).sum := by
  induction l with
  | nil => rfl
  | cons x l ih =>
    have ih' := ih fun i hi => h i (List.mem_cons_of_mem _ hi)
    rw [List.filter_cons]
    by_cases hp : p x = true
    · rw [if_pos hp]; simp [ih']
    · rw [if_neg hp]
      have := h x List.mem_cons_self (by simpa using hp)
      simp [ih', this]
theorem sum_filter_le (l : List Nat) (p : Nat → Bool) (f : Nat → Nat) : ((l.filter p).map f).sum ≤ (l.map f).sum := by
  induction l with
  | nil => exact Nat.le_refl _
  | cons x l ih =>
    rw [List.filter_cons]
    by_cases hp : p x = true
    · rw [if_pos hp]; simp [ih]
    · rw [if_neg hp]
      simp only [List.map_cons, List.sum_cons]
      omega
/-- which things stand anywhere -/
def some_ (C : List Nat) : List Nat := (List.range C.length).filter fun i => decide (0 < C.getD i 0)
theorem leavesFrom_eq : ∀ (C : List Nat) (i : Nat), leavesFrom i C = ((List.range C.length).filter fun j => decide (0 < C.getD j 0)).map fun j => ⟨C.getD j 0, i + j, [i + j]⟩ := by
  intro C
  induction C with
  | nil => intro i; rfl
  | cons c C ih =>
    intro i
    have e : ((List.range C.length).map Nat.succ).filter (fun j => decide (0 < (c :: C).getD j 0)) = ((List.range C.length).filter fun j => decide (0 < C.getD j 0)).map Nat.succ := by
      rw [List.filter_map]; rfl
    unfold leavesFrom
    rw [List.length_cons, List.range_succ_eq_map, List.filter_cons, e]
    by_cases hc : 0 < c
    · rw [if_pos hc, if_pos (by simpa using hc), List.map_cons, List.map_map, ih]
      congr 1
      apply List.map_congr_left
      intro j _
      simp only [Function.comp]
      rw [show i + 1 + j = i + j.succ from by omega]
      rfl
    · rw [if_neg hc, if_neg (by simpa using hc), List.map_map, ih]
      apply List.map_congr_left
      intro j _
      simp only [Function.comp]
      rw [show i + 1 + j = i + j.succ from by omega]
      rfl
theorem leaves_n (C : List Nat) : (leaves C).map Grp.n = (some_ C).map fun j => C.getD j 0 := by
  unfold leaves some_
  rw [leavesFrom_eq, List.map_map]
  rfl
theorem lens_one (C : List Nat) (g : Grp) (h : leaves C = [g]) : lens C = bump (List.replicate C.length 0) g.of := by unfold lens; rw [h]
theorem lens_many (C : List Nat) (h : (leaves C).length ≠ 1) : lens C = run (leaves C).length (leaves C) 256 (List.replicate C.length 0) := by
  unfold lens
  match hs : leaves C with
  | [] => rfl
  | [g] => rw [hs] at h; simp at h
  | a :: b :: r => rfl
/-- HUFFMAN's: D is any lengths of which there is room -/
theorem least (C D : List Nat) (hC : C.length ≤ 256) (hpos : ∀ i, i < C.length → 0 < C.getD i 0 → 0 < D.getD i 0) (h24 : ∀ i, D.getD i 0 ≤ 24)
    (hk : ((List.range C.length).map fun i => if 0 < D.getD i 0 then 2 ^ (24 - D.getD i 0) else 0).sum ≤ 2 ^ 24) : cost C (lens C) ≤ cost C D := by
  have hst := St.start C hC
  have hcD : cost C D = ((some_ C).map fun j => C.getD j 0 * D.getD j 0).sum := by
    unfold cost some_
    refine sum_filter _ _ _ fun i _ hi => ?_
    have : C.getD i 0 = 0 := by simpa using hi
    rw [this, Nat.zero_mul]
  by_cases h1 : (leaves C).length = 1
  · obtain ⟨g, hg⟩ := List.length_eq_one_iff.1 h1
    rw [lens_one C g hg]
    rw [hg] at hst
    have hnd := hst.nodup
    simp only [List.flatMap_cons, List.flatMap_nil, List.append_nil] at hnd
    rw [cost_bump C g.of _ List.length_replicate hnd (fun i hi => (hst.of_lt List.mem_cons_self i hi).1), cost_zero, Nat.zero_add, hst.sum g List.mem_cons_self]
    have hn := leaves_n C
    rw [hg, List.map_singleton] at hn
    match hs : some_ C with
    | [] => rw [hs] at hn; simp at hn
    | [j] =>
      rw [hs] at hn hcD
      simp only [List.map_cons, List.map_nil, List.cons.injEq, and_true] at hn
      have hj : j ∈ some_ C := by rw [hs]; exact List.mem_cons_self
      unfold some_ at hj
      rw [List.mem_filter, List.mem_range, decide_eq_true_iff] at hj
      have := hpos j hj.1 hj.2
      rw [hcD]
      simp only [List.map_cons, List.map_nil, List.sum_cons, List.sum_nil, Nat.add_zero]
      rw [hn]
      exact Nat.le_mul_of_pos_right _ this
    | a :: b :: r => rw [hs] at hn; simp at hn
  · rw [lens_many C h1, cost_run C _ (by rw [← List.length_map (f := Grp.n), leaves_n, List.length_map]; exact Nat.le_trans (Nat.le_trans (List.length_filter_le _ _) (by simp)) hC) _ _ _ _ hst, cost_zero, Nat.zero_add]
    have := best 24 (leaves C).length (leaves C) 256 ((some_ C).map fun j => (C.getD j 0, D.getD j 0)) (Nat.le_refl _) (by rw [leaves_n, List.map_map]; exact .refl _) (by
      refine Nat.le_trans ?_ hk
      unfold pkraft
      rw [List.map_map]
      refine Nat.le_trans (Nat.le_of_eq ?_) (sum_filter_le (List.range C.length) (fun i => decide (0 < C.getD i 0)) _)
      refine sum_congr _ _ _ fun i hi => ?_
      unfold some_ at hi
      rw [List.mem_filter, List.mem_range, decide_eq_true_iff] at hi
      rw [if_pos (hpos i hi.1 hi.2)]
      rfl) (by
      intro p hp
      obtain ⟨j, _, rfl⟩ := List.mem_map.1 hp
      exact h24 j)
    refine Nat.le_trans this (Nat.le_of_eq ?_)
    rw [hcD]
    unfold pcost
    rw [List.map_map]
    rfl
end Huff
end Go.Proofs.Ytenhblpegobbjaa
