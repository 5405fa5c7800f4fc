/- Huffman's lengths: no deep ones where little is counted. No program in sight. -/
import Derived.Test.YtenhblpegobbjaaPlainHuff4
namespace Go.Proofs.Ytenhblpegobbjaa
set_option linter.unusedVariables false
set_option linter.unusedSimpArgs false
namespace Huff
/-- two groups of a state: neither is more than twice the other, unless it is a thing alone -/
def Even (a b : Grp) : Prop := (256 ≤ a.made → a.n ≤ 2 * b.n) ∧ (256 ≤ b.made → b.n ≤ 2 * a.n)
theorem Even.symm {a b : Grp} (h : Even a b) : Even b a := ⟨h.2, h.1⟩
structure Dp (C : List Nat) (T : Nat) (l : List Grp) (made : Nat) (D : List Nat) : Prop where
  st : St C T l made D
  made : 256 ≤ made
  pos : ∀ g ∈ l, 0 < g.n
  leaf : ∀ g ∈ l, g.made < 256 → ∀ i ∈ g.of, D.getD i 0 = 0
  even : l.Pairwise Even
  deep : ∀ g ∈ l, ∀ i ∈ g.of, 3 ^ D.getD i 0 ≤ g.n * 2 ^ D.getD i 0
theorem Dp.perm {C : List Nat} {T : Nat} {l m : List Grp} {made : Nat} {D : List Nat} (h : Dp C T l made D) (hp : l.Perm m) : Dp C T m made D where
  st := h.st.perm hp
  made := h.made
  pos g hg := h.pos g (hp.mem_iff.2 hg)
  leaf g hg := h.leaf g (hp.mem_iff.2 hg)
  even := h.even.perm hp fun h => h.symm
  deep g hg := h.deep g (hp.mem_iff.2 hg)
theorem deeper (a s d : Nat) (h : 3 ^ d ≤ a * 2 ^ d) (h2 : 3 * a ≤ 2 * s) : 3 ^ (d + 1) ≤ s * 2 ^ (d + 1) := by
  rw [Nat.pow_succ, Nat.pow_succ]
  have h1 : 3 ^ d * 3 ≤ (3 * a) * 2 ^ d := by rw [Nat.mul_comm 3 a, Nat.mul_assoc a, Nat.mul_comm 3, ← Nat.mul_assoc]; exact Nat.mul_le_mul_right _ h
  have h3 : (3 * a) * 2 ^ d ≤ (2 * s) * 2 ^ d := Nat.mul_le_mul_right _ h2
  rw [show s * (2 ^ d * 2) = (2 * s) * 2 ^ d from by rw [Nat.mul_comm 2 s, Nat.mul_assoc, Nat.mul_comm (2 ^ d)]]
  omega
theorem Dp.step {C : List Nat} {T : Nat} {x y : Grp} {r : List Grp} {made : Nat} {D : List Nat} (hT : T ≤ 256) (h : Dp C T (x :: y :: r) made D) (hs : (x :: y :: r).Pairwise (fun a b => a.le b = true)) : Dp C T (r ++ [⟨x.n + y.n, made, x.of ++ y.of⟩]) (made + 1) (bump D (x.of ++ y.of)) := by
  have hnd := h.st.nodup
  simp only [List.flatMap_cons] at hnd
  rw [← List.append_assoc] at hnd
  obtain ⟨n1, n2, n3⟩ := List.nodup_append.1 hnd
  have hx : x ∈ x :: y :: r := List.mem_cons_self
  have hy : y ∈ x :: y :: r := List.mem_cons_of_mem _ List.mem_cons_self
  have hr : ∀ g ∈ r, g ∈ x :: y :: r := fun g hg => List.mem_cons_of_mem _ (List.mem_cons_of_mem _ hg)
  have hlt : ∀ i ∈ x.of ++ y.of, i < D.length := by
    intro i hi
    rw [h.st.len]
    rw [List.mem_append] at hi
    rcases hi with hi | hi
    · exact (h.st.of_lt hx i hi).1
    · exact (h.st.of_lt hy i hi).1
  have hget := bump_get (x.of ++ y.of) D n1 hlt
  have hsame : ∀ g ∈ r, ∀ i ∈ g.of, (bump D (x.of ++ y.of)).getD i 0 = D.getD i 0 := by
    intro g hg i hi
    rw [hget, if_neg, Nat.add_zero]
    intro hh
    exact n3 i hh i (List.mem_flatMap.2 ⟨g, hg, hi⟩) rfl
  have hup : ∀ i ∈ x.of ++ y.of, (bump D (x.of ++ y.of)).getD i 0 = D.getD i 0 + 1 := fun i hi => by rw [hget, if_pos hi]
  have px := h.pos x hx
  have py := h.pos y hy
  have he := h.even
  rw [List.pairwise_cons, List.pairwise_cons] at he hs
  have hexy := he.1 y List.mem_cons_self
  have hle : ∀ a b : Grp, a.le b = true → a.n ≤ b.n := fun a b h => by rw [Grp.le_iff] at h; omega
  refine ⟨h.st.step hT, by have := h.made; omega, ?_, ?_, ?_, ?_⟩
  · intro g hg
    rw [List.mem_append, List.mem_singleton] at hg
    rcases hg with hg | rfl
    · exact h.pos g (hr g hg)
    · show 0 < x.n + y.n; omega
  · intro g hg hm i hi
    rw [List.mem_append, List.mem_singleton] at hg
    rcases hg with hg | rfl
    · rw [hsame g hg i hi]; exact h.leaf g (hr g hg) hm i hi
    · have := h.made
      simp only [] at hm
      omega
  · rw [List.pairwise_append]
    refine ⟨he.2.2, List.pairwise_singleton _ _, fun a ha b hb => ?_⟩
    rw [List.mem_singleton] at hb
    subst hb
    have h1 := (he.1 a (List.mem_cons_of_mem _ ha)).2
    have h2 := hle _ _ (hs.2.1 a ha)
    have h3 := hle _ _ (hs.1 y List.mem_cons_self)
    constructor
    · intro hm
      have := h1 hm
      show a.n ≤ 2 * (x.n + y.n)
      omega
    · intro _
      show x.n + y.n ≤ 2 * a.n
      omega
  · intro g hg i hi
    rw [List.mem_append, List.mem_singleton] at hg
    rcases hg with hg | rfl
    · rw [hsame g hg i hi]; exact h.deep g (hr g hg) i hi
    · rw [hup i hi]
      show 3 ^ (D.getD i 0 + 1) ≤ (x.n + y.n) * 2 ^ (D.getD i 0 + 1)
      simp only [List.mem_append] at hi
      rcases hi with hi | hi
      · by_cases hm : x.made < 256
        · rw [h.leaf x hx hm i hi]
          show 3 ≤ (x.n + y.n) * 2
          omega
        · exact deeper x.n _ _ (h.deep x hx i hi) (by have := hexy.1 (by omega); omega)
      · by_cases hm : y.made < 256
        · rw [h.leaf y hy hm i hi]
          show 3 ≤ (x.n + y.n) * 2
          omega
        · exact deeper y.n _ _ (h.deep y hy i hi) (by have := hexy.2 (by omega); omega)
theorem Dp.start (C : List Nat) (hC : C.length ≤ 256) : Dp C (leaves C).length (leaves C) 256 (List.replicate C.length 0) := by
  obtain ⟨h1, h2, h3, h4⟩ := leavesFrom_facts C 0
  have hof : ∀ g ∈ leaves C, g.made < 256 ∧ 0 < g.n := by
    intro g hg
    obtain ⟨j, hj, he, hp⟩ := h1 g hg
    rw [he]
    exact ⟨by show 0 + j < 256; omega, hp⟩
  refine ⟨St.start C hC, Nat.le_refl _, fun g hg => (hof g hg).2, fun g hg _ i _ => getD_replicate_zero _ _, ?_, fun g hg i _ => ?_⟩
  · rw [List.pairwise_iff_getElem]
    intro i j hi hj _
    exact ⟨fun h => by have := (hof _ (List.getElem_mem hi)).1; omega, fun h => by have := (hof _ (List.getElem_mem hj)).1; omega⟩
  · rw [getD_replicate_zero]
    have := (hof g hg).2
    simp
    exact this
theorem run_sorted (P : List Grp → Nat → List Nat → Prop) (hp : ∀ l made D, P l made D → P (isort l) made D) (hs : ∀ x y r made D, (x :: y :: r).Pairwise (fun a b => a.le b = true) → P (x :: y :: r) made D → P (r ++ [⟨x.n + y.n, made, x.of ++ y.of⟩]) (made + 1) (bump D (x.of ++ y.of))) :
    ∀ f l made D, l.length ≤ f → P l made D → ∃ l' made', l'.length ≤ 1 ∧ (l ≠ [] → l' ≠ []) ∧ P l' made' (run f l made D) := by
  intro f
  induction f with
  | zero =>
    intro l made D hl h
    exact ⟨l, made, by omega, id, by rw [run_short _ _ _ _ (by omega)]; exact h⟩
  | succ f ih =>
    intro l made D hl h
    by_cases h1 : l.length ≤ 1
    · exact ⟨l, made, h1, id, by rw [run_short _ _ _ _ h1]; exact h⟩
    · have hlen := (isort_perm l).length_eq
      have hso := isort_sorted l
      match hs' : isort l with
      | [] => rw [hs'] at hlen; simp at hlen; omega
      | [x] => rw [hs'] at hlen; simp at hlen; omega
      | x :: y :: r =>
        rw [run_step f l made D x y r hs']
        have h2 := hp l made D h
        rw [hs'] at h2 hlen hso
        obtain ⟨l', made', a, b, c⟩ := ih _ (made + 1) _ (by simp at hlen ⊢; omega) (hs x y r made D hso h2)
        exact ⟨l', made', a, fun _ => b (by simp), c⟩
theorem part_sum (C : List Nat) (l : List Nat) (hn : l.Nodup) (hl : ∀ i ∈ l, i < C.length) : (l.map fun i => C.getD i 0).sum ≤ C.sum := by
  have key : ∀ n, n ≤ C.length → ((List.range n).map fun i => C.getD i 0).sum ≤ (C.take n).sum := by
    intro n
    induction n with
    | zero => intro _; simp
    | succ n ih =>
      intro h
      have := ih (by omega)
      rw [List.range_succ, List.map_append, List.sum_append, List.take_succ_eq_append_getElem (by omega), List.sum_append]
      simp only [List.map_cons, List.map_nil, List.sum_cons, List.sum_nil, Nat.add_zero]
      rw [List.getD_eq_getElem?_getD, List.getElem?_eq_getElem (by omega), Option.getD_some]
      omega
  have h1 : (l.map fun i => C.getD i 0).sum ≤ ((List.range C.length).map fun i => C.getD i 0).sum := by
    have hp : l.Perm ((List.range C.length).filter fun i => decide (i ∈ l)) := by
      refine (List.perm_ext_iff_of_nodup hn (List.nodup_range.filter _)).2 fun i => ?_
      rw [List.mem_filter, List.mem_range, decide_eq_true_iff]
      exact ⟨fun h => ⟨hl i h, h⟩, fun h => h.2⟩
    rw [(hp.map _).sum_nat]
    exact sum_filter_le _ _ _
  have h2 := key C.length (Nat.le_refl _)
  rw [List.take_length] at h2
  omega
/-- NO SIGN HAS MORE THAN 24 BITS where no more than 25000 things stand -/
theorem shallow (C : List Nat) (hC : C.length ≤ 256) (hs : C.sum ≤ 25000) (i : Nat) : (lens C).getD i 0 ≤ 24 := by
  have hl := leaves_length C
  by_cases hi : i < C.length ∧ 0 < C.getD i 0
  · by_cases h1 : (leaves C).length = 1
    · obtain ⟨g, hg⟩ := List.length_eq_one_iff.1 h1
      have hst := St.start C hC
      rw [lens_one C g hg]
      rw [hg] at hst
      have hnd := hst.nodup
      simp only [List.flatMap_cons, List.flatMap_nil, List.append_nil] at hnd
      rw [bump_get _ _ hnd (fun k hk => by rw [List.length_replicate]; exact (hst.of_lt List.mem_cons_self k hk).1), getD_replicate_zero]
      split <;> omega
    · have hT : (leaves C).length ≤ 256 := by have := some_le C; omega
      obtain ⟨l', made', a, b, h⟩ := run_sorted (fun l made D => Dp C (leaves C).length l made D) (fun l made D h => h.perm (isort_perm l).symm) (fun x y r made D hso h => h.step hT hso) (leaves C).length _ _ _ (Nat.le_refl _) (Dp.start C hC)
      rw [← lens_many C h1] at h
      have hm := (h.st.mem i).2 hi
      rw [List.mem_flatMap] at hm
      obtain ⟨g, hg, hig⟩ := hm
      have hd := h.deep g hg i hig
      have hnd : g.of.Nodup := by
        have := h.st.nodup
        match l', a, hg with
        | [k], _, hg =>
          rw [List.mem_singleton] at hg
          subst hg
          simpa using this
      have hn : g.n ≤ 25000 := by
        rw [← h.st.sum g hg]
        exact Nat.le_trans (part_sum C g.of hnd fun k hk => (h.st.of_lt hg k hk).1) hs
      rcases Nat.lt_or_ge 24 ((lens C).getD i 0) with hgt | hle
      · exfalso
        obtain ⟨d, hd'⟩ : ∃ d, (lens C).getD i 0 = 25 + d := ⟨(lens C).getD i 0 - 25, by omega⟩
        rw [hd', Nat.pow_add, Nat.pow_add] at hd
        have h3 : 2 ^ d ≤ 3 ^ d := Nat.pow_le_pow_left (by decide) d
        have h5 : 0 < 2 ^ d := Nat.pow_pos (by decide)
        have h6 : g.n * (2 ^ 25 * 2 ^ d) ≤ 25000 * (2 ^ 25 * 2 ^ d) := Nat.mul_le_mul_right _ hn
        have h7 : 3 ^ 25 * 2 ^ d ≤ 3 ^ 25 * 3 ^ d := Nat.mul_le_mul_left _ h3
        have h8 : 25000 * (2 ^ 25 * 2 ^ d) < 3 ^ 25 * 2 ^ d := by
          rw [← Nat.mul_assoc]
          exact Nat.mul_lt_mul_of_pos_right (by decide) h5
        omega
      · exact hle
  · rw [lens_zero C hC i hi]; omega
end Huff
end Go.Proofs.Ytenhblpegobbjaa
