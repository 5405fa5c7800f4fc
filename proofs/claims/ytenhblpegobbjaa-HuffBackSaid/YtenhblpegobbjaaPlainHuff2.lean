/- Huffman's lengths: the plain function of huff.Lens, and what is true of each of its states. No program in sight. -/
import Derived.Test.YtenhblpegobbjaaPlainHuff
namespace Go.Proofs.Ytenhblpegobbjaa
set_option linter.unusedVariables false
set_option linter.unusedSimpArgs false
namespace Huff
structure Grp where
  n : Nat
  made : Nat
  of : List Nat
deriving DecidableEq
def Grp.le (a b : Grp) : Bool := decide (a.n < b.n) || (decide (a.n = b.n) && decide (a.made ≤ b.made))
theorem Grp.le_iff (a b : Grp) : a.le b = true ↔ a.n < b.n ∨ a.n = b.n ∧ a.made ≤ b.made := by simp [Grp.le]
def ins (g : Grp) : List Grp → List Grp
  | [] => [g]
  | h :: t => if g.le h then g :: h :: t else h :: ins g t
def isort : List Grp → List Grp
  | [] => []
  | g :: t => ins g (isort t)
theorem ins_perm (g : Grp) : ∀ l, (ins g l).Perm (g :: l) := by
  intro l
  induction l with
  | nil => exact .refl _
  | cons h t ih =>
    unfold ins
    split
    · exact .refl _
    · exact (ih.cons h).trans (.swap g h t)
theorem isort_perm : ∀ l, (isort l).Perm l := by
  intro l
  induction l with
  | nil => exact .refl _
  | cons g t ih => exact (ins_perm g _).trans (ih.cons g)
theorem ins_sorted (g : Grp) : ∀ l, l.Pairwise (fun a b => a.le b = true) → (ins g l).Pairwise (fun a b => a.le b = true) := by
  intro l
  induction l with
  | nil => intro _; simp [ins]
  | cons h t ih =>
    intro hp
    rw [List.pairwise_cons] at hp
    unfold ins
    split
    · rename_i hle
      rw [List.pairwise_cons]
      refine ⟨fun x hx => ?_, List.pairwise_cons.2 hp⟩
      rw [List.mem_cons] at hx
      rcases hx with rfl | hx
      · exact hle
      · have h1 := hp.1 x hx
        rw [Grp.le_iff] at *
        omega
    · rename_i hle
      rw [List.pairwise_cons]
      refine ⟨fun x hx => ?_, ih hp.2⟩
      rw [(ins_perm g t).mem_iff, List.mem_cons] at hx
      rcases hx with rfl | hx
      · rw [Grp.le_iff] at *
        omega
      · exact hp.1 x hx
theorem isort_sorted : ∀ l, (isort l).Pairwise (fun a b => a.le b = true) := by
  intro l
  induction l with
  | nil => exact .nil
  | cons g t ih => exact ins_sorted g _ ih
/-- there is one order alone -/
theorem sorted_uniq : ∀ (l m : List Grp), l.Perm m → l.Pairwise (fun a b => a.le b = true) → m.Pairwise (fun a b => a.le b = true) → l.Pairwise (fun a b => a.made ≠ b.made) → l = m := by
  intro l
  induction l with
  | nil => intro m h _ _ _; exact h.nil_eq
  | cons g t ih =>
    intro m h hl hm hd
    cases m with
    | nil => exact absurd h.symm.nil_eq (by simp)
    | cons k u =>
      rw [List.pairwise_cons] at hl hm hd
      have e : g = k := by
        have h1 : g ∈ k :: u := h.mem_iff.1 (List.mem_cons_self)
        have h2 : k ∈ g :: t := h.mem_iff.2 (List.mem_cons_self)
        rw [List.mem_cons] at h1 h2
        rcases h1 with h1 | h1
        · exact h1
        · rcases h2 with h2 | h2
          · exact h2.symm
          · have a1 := hm.1 g h1
            have a2 := hl.1 k h2
            have a3 := hd.1 k h2
            rw [Grp.le_iff] at a1 a2
            omega
      subst e
      rw [ih u (h.cons_inv) hl.2 hm.2 hd.2]
def bump (D : List Nat) (of : List Nat) : List Nat := of.foldl (fun D i => D.set i (D.getD i 0 + 1)) D
theorem bump_length (of : List Nat) : ∀ D, (bump D of).length = D.length := by
  induction of with
  | nil => intro D; rfl
  | cons i of ih => intro D; show (bump (D.set i _) of).length = _; rw [ih, List.length_set]
theorem getD_set (D : List Nat) (i j x : Nat) (h : i < D.length) : (D.set i x).getD j 0 = if i = j then x else D.getD j 0 := by
  simp only [List.getD_eq_getElem?_getD, List.getElem?_set]
  by_cases e : i = j
  · subst e; simp [h]
  · simp [e]
theorem bump_get (of : List Nat) : ∀ D : List Nat, of.Nodup → (∀ i ∈ of, i < D.length) → ∀ j, (bump D of).getD j 0 = D.getD j 0 + if j ∈ of then 1 else 0 := by
  induction of with
  | nil => intro D _ _ j; simp [bump]
  | cons i of ih =>
    intro D hn hl j
    rw [List.nodup_cons] at hn
    show (bump (D.set i _) of).getD j 0 = _
    rw [ih _ hn.2 (fun k hk => by rw [List.length_set]; exact hl k (List.mem_cons_of_mem _ hk)), getD_set _ _ _ _ (hl i List.mem_cons_self)]
    by_cases e : i = j
    · subst e
      rw [if_pos rfl, if_neg hn.1, if_pos List.mem_cons_self]
    · rw [if_neg e]
      congr 1
      by_cases h : j ∈ of
      · rw [if_pos h, if_pos (List.mem_cons_of_mem _ h)]
      · rw [if_neg h, if_neg (by rw [List.mem_cons]; rintro (h2 | h2); exact e h2.symm; exact h h2)]
/-- one group for each thing that stands anywhere -/
def leavesFrom : Nat → List Nat → List Grp
  | _, [] => []
  | i, c :: C => if 0 < c then ⟨c, i, [i]⟩ :: leavesFrom (i + 1) C else leavesFrom (i + 1) C
def leaves (C : List Nat) : List Grp := leavesFrom 0 C
def run : Nat → List Grp → Nat → List Nat → List Nat
  | 0, _, _, D => D
  | f + 1, l, made, D => match isort l with
    | x :: y :: r => run f (r ++ [⟨x.n + y.n, made, x.of ++ y.of⟩]) (made + 1) (bump D (x.of ++ y.of))
    | _ => D
def lens (C : List Nat) : List Nat :=
  match leaves C with
  | [g] => bump (List.replicate C.length 0) g.of
  | l => run l.length l 256 (List.replicate C.length 0)
theorem run_short (f : Nat) (l : List Grp) (made : Nat) (D : List Nat) (h : l.length ≤ 1) : run f l made D = D := by
  cases f with
  | zero => rfl
  | succ f =>
    unfold run
    have := (isort_perm l).length_eq
    match hs : isort l with
    | [] => rfl
    | [x] => rfl
    | x :: y :: r => rw [hs] at this; simp at this; omega
theorem run_step (f : Nat) (l : List Grp) (made : Nat) (D : List Nat) (x y : Grp) (r : List Grp) (h : isort l = x :: y :: r) : run (f + 1) l made D = run f (r ++ [⟨x.n + y.n, made, x.of ++ y.of⟩]) (made + 1) (bump D (x.of ++ y.of)) := by
  rw [run, h]
theorem leavesFrom_facts : ∀ (C : List Nat) (i : Nat), (∀ g ∈ leavesFrom i C, ∃ j, j < C.length ∧ g = ⟨C.getD j 0, i + j, [i + j]⟩ ∧ 0 < C.getD j 0) ∧ (∀ j, j < C.length → 0 < C.getD j 0 → (⟨C.getD j 0, i + j, [i + j]⟩ : Grp) ∈ leavesFrom i C) ∧
    (leavesFrom i C).Pairwise (fun a b => a.made < b.made) ∧ (leavesFrom i C).length ≤ C.length := by
  intro C
  induction C with
  | nil => intro i; exact ⟨fun g h => by simp [leavesFrom] at h, fun j h => by simp at h, .nil, Nat.le_refl _⟩
  | cons c C ih =>
    intro i
    obtain ⟨h1, h2, h3, h4⟩ := ih (i + 1)
    have a1 : ∀ g ∈ leavesFrom (i + 1) C, ∃ j, j < (c :: C).length ∧ g = ⟨(c :: C).getD j 0, i + j, [i + j]⟩ ∧ 0 < (c :: C).getD j 0 := by
      intro g hg
      obtain ⟨j, hj, he, hp⟩ := h1 g hg
      refine ⟨j + 1, by simp; omega, ?_, by simpa using hp⟩
      rw [he, show i + 1 + j = i + (j + 1) from by omega]
      simp
    have a2 : ∀ j, j < C.length → 0 < C.getD j 0 → (⟨(c :: C).getD (j + 1) 0, i + (j + 1), [i + (j + 1)]⟩ : Grp) ∈ leavesFrom (i + 1) C := by
      intro j hj hp
      have := h2 j hj hp
      rw [show i + 1 + j = i + (j + 1) from by omega] at this
      simpa using this
    unfold leavesFrom
    by_cases hc : 0 < c
    · rw [if_pos hc]
      refine ⟨fun g hg => ?_, fun j hj hp => ?_, ?_, by simp; omega⟩
      · rw [List.mem_cons] at hg
        rcases hg with rfl | hg
        · exact ⟨0, by simp, by simp, by simpa using hc⟩
        · exact a1 g hg
      · rcases j with _ | j
        · simp
        · exact List.mem_cons_of_mem _ (a2 j (by simpa using hj) (by simpa using hp))
      · rw [List.pairwise_cons]
        refine ⟨fun g hg => ?_, h3⟩
        obtain ⟨j, hj, he, hp⟩ := h1 g hg
        rw [he]
        show i < i + 1 + j
        omega
    · rw [if_neg hc]
      refine ⟨a1, fun j hj hp => ?_, h3, by simp; omega⟩
      rcases j with _ | j
      · exact absurd (by simpa using hp) hc
      · exact a2 j (by simpa using hj) (by simpa using hp)
/-- what is true of each state -/
structure St (C : List Nat) (T : Nat) (l : List Grp) (made : Nat) (D : List Nat) : Prop where
  len : D.length = C.length
  nodup : (l.flatMap Grp.of).Nodup
  mem : ∀ i, i ∈ l.flatMap Grp.of ↔ i < C.length ∧ 0 < C.getD i 0
  ne : ∀ g ∈ l, g.of ≠ []
  sum : ∀ g ∈ l, (g.of.map fun i => C.getD i 0).sum = g.n
  zero : ∀ i, i ∉ l.flatMap Grp.of → D.getD i 0 = 0
  kraft : ∀ g ∈ l, (g.of.map fun i => 2 ^ (256 - D.getD i 0)).sum = 2 ^ 256
  deep : ∀ i, D.getD i 0 + l.length ≤ T
  mades : l.Pairwise (fun a b => a.made ≠ b.made)
  last : ∀ g ∈ l, g.made < made
  pos : ∀ g ∈ l, 2 ≤ g.of.length → ∀ i ∈ g.of, 0 < D.getD i 0
theorem flatMap_perm {l m : List Grp} (h : l.Perm m) : (l.flatMap Grp.of).Perm (m.flatMap Grp.of) := by
  induction h with
  | nil => exact .refl _
  | cons x _ ih => simp only [List.flatMap_cons]; exact ih.append_left _
  | swap x y l =>
    simp only [List.flatMap_cons]
    rw [← List.append_assoc, ← List.append_assoc]
    exact (List.perm_append_comm).append_right _
  | trans _ _ h1 h2 => exact h1.trans h2
theorem St.perm {C : List Nat} {T : Nat} {l m : List Grp} {made : Nat} {D : List Nat} (h : St C T l made D) (hp : l.Perm m) : St C T m made D where
  len := h.len
  nodup := (flatMap_perm hp).nodup_iff.1 h.nodup
  mem i := (flatMap_perm hp).mem_iff.symm.trans (h.mem i)
  ne g hg := h.ne g (hp.mem_iff.2 hg)
  sum g hg := h.sum g (hp.mem_iff.2 hg)
  zero i hi := h.zero i (fun hh => hi ((flatMap_perm hp).mem_iff.1 hh))
  kraft g hg := h.kraft g (hp.mem_iff.2 hg)
  deep i := by rw [← hp.length_eq]; exact h.deep i
  mades := h.mades.perm hp (fun h => h.symm)
  last g hg := h.last g (hp.mem_iff.2 hg)
  pos g hg := h.pos g (hp.mem_iff.2 hg)
theorem sum_congr (l : List Nat) (f g : Nat → Nat) (h : ∀ i ∈ l, f i = g i) : (l.map f).sum = (l.map g).sum := by
  rw [List.map_congr_left h]
theorem sum_double (l : List Nat) (f : Nat → Nat) : (l.map fun i => 2 * f i).sum = 2 * (l.map f).sum := by
  induction l with
  | nil => rfl
  | cons x l ih => simp only [List.map_cons, List.sum_cons, ih]; omega
theorem half_sum (l : List Nat) (d : Nat → Nat) (hd : ∀ i ∈ l, d i < 256) (hs : (l.map fun i => 2 ^ (256 - d i)).sum = 2 ^ 256) : (l.map fun i => 2 ^ (256 - (d i + 1))).sum = 2 ^ 255 := by
  have h : (l.map fun i => 2 ^ (256 - d i)).sum = 2 * (l.map fun i => 2 ^ (256 - (d i + 1))).sum := by
    rw [← sum_double]
    refine sum_congr _ _ _ fun i hi => ?_
    have := hd i hi
    rw [show 256 - d i = (256 - (d i + 1)) + 1 from by omega, Nat.pow_succ, Nat.mul_comm]
  rw [hs] at h
  have e : (2 : Nat) ^ 256 = 2 * 2 ^ 255 := by rw [Nat.mul_comm, ← Nat.pow_succ]
  omega
theorem St.step {C : List Nat} {T : Nat} {x y : Grp} {r : List Grp} {made : Nat} {D : List Nat} (hT : T ≤ 256) (h : St C T (x :: y :: r) made D) : St C T (r ++ [⟨x.n + y.n, made, x.of ++ y.of⟩]) (made + 1) (bump D (x.of ++ y.of)) := by
  have hnd := h.nodup
  simp only [List.flatMap_cons] at hnd
  rw [← List.append_assoc] at hnd
  obtain ⟨n1, n2, n3⟩ := List.nodup_append.1 hnd
  have hfl : ∀ i, i ∈ (r ++ [(⟨x.n + y.n, made, x.of ++ y.of⟩ : Grp)]).flatMap Grp.of ↔ i ∈ (x :: y :: r).flatMap Grp.of := by
    intro i
    simp only [List.flatMap_append, List.flatMap_cons, List.flatMap_nil, List.append_nil, List.mem_append]
    constructor
    · rintro (a | a | a) <;> simp [a]
    · rintro (a | a | a) <;> simp [a]
  have hlt : ∀ i ∈ x.of ++ y.of, i < D.length := by
    intro i hi
    rw [h.len]
    refine ((h.mem i).1 ?_).1
    simp only [List.flatMap_cons, List.mem_append] at hi ⊢
    rcases hi with hi | hi <;> simp [hi]
  have hget := bump_get (x.of ++ y.of) D n1 hlt
  have hx : x ∈ x :: y :: r := List.mem_cons_self
  have hy : y ∈ x :: y :: r := List.mem_cons_of_mem _ List.mem_cons_self
  have hr : ∀ g ∈ r, g ∈ x :: y :: r := fun g hg => List.mem_cons_of_mem _ (List.mem_cons_of_mem _ hg)
  have hsame : ∀ g ∈ r, ∀ i ∈ g.of, (bump D (x.of ++ y.of)).getD i 0 = D.getD i 0 := by
    intro g hg i hi
    rw [hget, if_neg, Nat.add_zero]
    intro hh
    exact n3 i hh i (List.mem_flatMap.2 ⟨g, hg, hi⟩) rfl
  have hdeep : ∀ i, D.getD i 0 < 256 := by
    intro i
    have := h.deep i
    simp only [List.length_cons] at this
    omega
  have hup : ∀ i ∈ x.of ++ y.of, (bump D (x.of ++ y.of)).getD i 0 = D.getD i 0 + 1 := fun i hi => by rw [hget, if_pos hi]
  constructor
  · rw [bump_length]; exact h.len
  · simp only [List.flatMap_append, List.flatMap_cons, List.flatMap_nil, List.append_nil]
    exact (List.perm_append_comm.nodup_iff).1 hnd
  · intro i; exact (hfl i).trans (h.mem i)
  · intro g hg
    rw [List.mem_append, List.mem_singleton] at hg
    rcases hg with hg | rfl
    · exact h.ne g (hr g hg)
    · have := h.ne x hx
      simp [this]
  · intro g hg
    rw [List.mem_append, List.mem_singleton] at hg
    rcases hg with hg | rfl
    · exact h.sum g (hr g hg)
    · show ((x.of ++ y.of).map _).sum = x.n + y.n
      rw [List.map_append, List.sum_append, h.sum x hx, h.sum y hy]
  · intro i hi
    rw [hfl] at hi
    rw [hget, if_neg, h.zero i hi]
    intro hh
    refine hi ?_
    simp only [List.flatMap_cons, List.mem_append] at hh ⊢
    rcases hh with hh | hh <;> simp [hh]
  · intro g hg
    rw [List.mem_append, List.mem_singleton] at hg
    rcases hg with hg | rfl
    · rw [sum_congr _ _ (fun i => 2 ^ (256 - D.getD i 0)) (fun i hi => by rw [hsame g hg i hi])]
      exact h.kraft g (hr g hg)
    · show ((x.of ++ y.of).map _).sum = 2 ^ 256
      rw [sum_congr _ _ (fun i => 2 ^ (256 - (D.getD i 0 + 1))) (fun i hi => by rw [hup i hi]), List.map_append, List.sum_append, half_sum x.of (fun i => D.getD i 0) (fun i _ => hdeep i) (h.kraft x hx), half_sum y.of (fun i => D.getD i 0) (fun i _ => hdeep i) (h.kraft y hy)]
  · intro i
    have := h.deep i
    rw [hget]
    simp only [List.length_cons, List.length_append, List.length_nil] at this ⊢
    split <;> omega
  · have hm := h.mades
    rw [List.pairwise_cons, List.pairwise_cons] at hm
    rw [List.pairwise_append]
    refine ⟨hm.2.2, List.pairwise_singleton _ _, fun a ha b hb => ?_⟩
    rw [List.mem_singleton] at hb
    subst hb
    have := h.last a (hr a ha)
    show a.made ≠ made
    omega
  · intro g hg
    rw [List.mem_append, List.mem_singleton] at hg
    rcases hg with hg | rfl
    · have := h.last g (hr g hg); omega
    · exact Nat.lt_succ_self _
  · intro g hg h2 i hi
    rw [List.mem_append, List.mem_singleton] at hg
    rcases hg with hg | rfl
    · rw [hsame g hg i hi]; exact h.pos g (hr g hg) h2 i hi
    · rw [hup i hi]; omega
theorem getD_replicate_zero (n i : Nat) : (List.replicate n 0).getD i 0 = 0 := by
  rw [List.getD_eq_getElem?_getD, List.getElem?_replicate]
  split <;> rfl
theorem St.start (C : List Nat) (hC : C.length ≤ 256) : St C (leaves C).length (leaves C) 256 (List.replicate C.length 0) := by
  obtain ⟨h1, h2, h3, h4⟩ := leavesFrom_facts C 0
  have hof : ∀ g ∈ leaves C, ∃ j, j < C.length ∧ g.n = C.getD j 0 ∧ g.made = j ∧ g.of = [j] ∧ 0 < C.getD j 0 := by
    intro g hg
    obtain ⟨j, hj, he, hp⟩ := h1 g hg
    rw [Nat.zero_add] at he
    exact ⟨j, hj, by rw [he], by rw [he], by rw [he], hp⟩
  have hlist : ∀ l : List Grp, (∀ g ∈ l, g.of = [g.made]) → l.flatMap Grp.of = l.map Grp.made := by
    intro l
    induction l with
    | nil => intro _; rfl
    | cons g l ih =>
      intro hg
      rw [List.flatMap_cons, hg g List.mem_cons_self, List.map_cons, ih (fun k hk => hg k (List.mem_cons_of_mem _ hk))]
      rfl
  have hfm : (leaves C).flatMap Grp.of = (leaves C).map Grp.made := hlist _ fun g hg => by
    obtain ⟨j, _, _, a, b, _⟩ := hof g hg
    rw [a, b]
  constructor
  · exact List.length_replicate
  · rw [hfm]
    unfold List.Nodup
    rw [List.pairwise_map]
    exact h3.imp fun h => Nat.ne_of_lt h
  · intro i
    rw [List.mem_flatMap]
    constructor
    · rintro ⟨g, hg, hi⟩
      obtain ⟨j, hj, a, b, c, d⟩ := hof g hg
      rw [c, List.mem_singleton] at hi
      subst hi
      exact ⟨hj, d⟩
    · rintro ⟨hi, hp⟩
      have := h2 i hi hp
      rw [Nat.zero_add] at this
      exact ⟨_, this, List.mem_singleton.2 rfl⟩
  · intro g hg
    obtain ⟨j, hj, a, b, c, d⟩ := hof g hg
    rw [c]; simp
  · intro g hg
    obtain ⟨j, hj, a, b, c, d⟩ := hof g hg
    rw [c, a]; simp
  · intro i _; exact getD_replicate_zero _ _
  · intro g hg
    obtain ⟨j, hj, a, b, c, d⟩ := hof g hg
    rw [c, List.map_singleton, getD_replicate_zero, List.sum_singleton]
  · intro i; rw [getD_replicate_zero]; omega
  · exact h3.imp fun h => Nat.ne_of_lt h
  · intro g hg
    obtain ⟨j, hj, a, b, c, d⟩ := hof g hg
    omega
  · intro g hg h2
    obtain ⟨j, hj, a, b, c, d⟩ := hof g hg
    rw [c] at h2
    simp at h2
/-- whatever is kept by each step is there at the end -/
theorem run_all (P : List Grp → Nat → List Nat → Prop) (hp : ∀ l made D, P l made D → P (isort l) made D) (hs : ∀ x y r made D, P (x :: y :: r) made D → P (r ++ [⟨x.n + y.n, made, x.of ++ y.of⟩]) (made + 1) (bump D (x.of ++ y.of))) :
    ∀ f l made D, l.length ≤ f → P l made D → ∃ l' made', l'.length ≤ 1 ∧ (l ≠ [] → l' ≠ []) ∧ P l' made' (run f l made D) := by
  intro f
  induction f with
  | zero =>
    intro l made D hl h
    exact ⟨l, made, by omega, id, by rw [run_short _ _ _ _ (by omega)]; exact h⟩
  | succ f ih =>
    intro l made D hl h
    by_cases h1 : l.length ≤ 1
    · exact ⟨l, made, h1, id, by rw [run_short _ _ _ _ h1]; exact h⟩
    · have hlen := (isort_perm l).length_eq
      match hs' : isort l with
      | [] => rw [hs'] at hlen; simp at hlen; omega
      | [x] => rw [hs'] at hlen; simp at hlen; omega
      | x :: y :: r =>
        rw [run_step f l made D x y r hs']
        have h2 := hp l made D h
        rw [hs'] at h2 hlen
        obtain ⟨l', made', a, b, c⟩ := ih _ (made + 1) _ (by simp at hlen ⊢; omega) (hs x y r made D h2)
        exact ⟨l', made', a, fun _ => b (by simp), c⟩
end Huff
end Go.Proofs.Ytenhblpegobbjaa
