/- The tree's fails and ends, node by node in the order of their lengths. No program in sight. -/
import Derived.Test.YtkahceijhokmoaaPlainAho
namespace Go.Proofs.Ytkahceijhokmoaa
set_option linter.unusedVariables false
set_option linter.unusedSimpArgs false
namespace Aho
/-- the nodes that a node's bytes below c lead to -/
def kids (N : List Wd) (x : Wd) (c : Nat) : List Wd := ((List.range c).filter fun b => decide (x ++ [UInt8.ofNat b] ∈ N)).map fun b => x ++ [UInt8.ofNat b]
theorem kids_zero (N : List Wd) (x : Wd) : kids N x 0 = [] := rfl
theorem kids_yes {N : List Wd} {x : Wd} {c : Nat} (h : x ++ [UInt8.ofNat c] ∈ N) : kids N x (c + 1) = kids N x c ++ [x ++ [UInt8.ofNat c]] := by
  unfold kids
  rw [List.range_succ, List.filter_append, List.map_append, List.filter_cons_of_pos (by simpa using h)]
  rfl
theorem kids_no {N : List Wd} {x : Wd} {c : Nat} (h : x ++ [UInt8.ofNat c] ∉ N) : kids N x (c + 1) = kids N x c := by
  unfold kids
  rw [List.range_succ, List.filter_append, List.map_append, List.filter_cons_of_neg (by simpa using h)]
  simp
theorem mem_kids {N : List Wd} {x y : Wd} {c : Nat} : y ∈ kids N x c ↔ ∃ b, b < c ∧ x ++ [UInt8.ofNat b] ∈ N ∧ y = x ++ [UInt8.ofNat b] := by
  unfold kids
  simp only [List.mem_map, List.mem_filter, List.mem_range, decide_eq_true_eq]
  constructor
  · rintro ⟨b, ⟨h1, h2⟩, rfl⟩; exact ⟨b, h1, h2, rfl⟩
  · rintro ⟨b, h1, h2, rfl⟩; exact ⟨b, ⟨h1, h2⟩, rfl⟩
theorem ofNat_inj {a b : Nat} (ha : a < 256) (hb : b < 256) (h : UInt8.ofNat a = UInt8.ofNat b) : a = b := by
  have := congrArg UInt8.toNat h
  rw [UInt8.toNat_ofNat_of_lt' (by omega), UInt8.toNat_ofNat_of_lt' (by omega)] at this
  exact this
theorem kids_nd (N : List Wd) (x : Wd) (c : Nat) (hc : c ≤ 256) : (kids N x c).Nodup := by
  unfold kids
  rw [List.Nodup, List.pairwise_map]
  have h : ((List.range c).filter fun b => decide (x ++ [UInt8.ofNat b] ∈ N)).Pairwise (· ≠ ·) := (List.nodup_range).filter _
  refine List.Pairwise.imp_of_mem ?_ h
  intro a b ha hb hne e
  rw [List.mem_filter, List.mem_range] at ha hb
  exact hne (ofNat_inj (by omega) (by omega) (snoc_inj e).2)
theorem all_kids {N : List Wd} {x y : Wd} : y ∈ kids N x 256 ↔ y ∈ N ∧ y ≠ [] ∧ y.dropLast = x := by
  rw [mem_kids]
  constructor
  · rintro ⟨b, h1, h2, rfl⟩
    exact ⟨h2, by simp, by simp⟩
  · rintro ⟨h1, h2, h3⟩
    have hy : y = x ++ [y.getLast h2] := by rw [← h3]; exact (List.dropLast_concat_getLast h2).symm
    have hb : UInt8.ofNat (y.getLast h2).toNat = y.getLast h2 := UInt8.ofNat_toNat
    exact ⟨(y.getLast h2).toNat, UInt8.toNat_lt _, by rw [hb, ← hy]; exact h1, by rw [hb]; exact hy⟩
/-- where the way through the nodes stands: d: which have their fails and ends; P: gone through; Q: to be gone through -/
structure Bfs (N : List Wd) (d : Wd → Bool) (P Q : List Wd) : Prop where
  tr : Tree N
  sub : ∀ x ∈ P ++ Q, x ∈ N
  nd : (P ++ Q).Nodup
  done : ∀ x ∈ N, (d x = true ↔ x = [] ∨ x.dropLast ∈ P ∧ x ≠ [])
  pq : ∀ x ∈ N, (d x = true ↔ x ∈ P ++ Q)
  srt : Q.Pairwise fun a b => a.length ≤ b.length ∧ b.length ≤ a.length + 1
theorem Bfs.start {N : List Wd} (h : Tree N) : Bfs N (fun x => decide (x = [])) [] [[]] := by
  refine ⟨h, ?_, by simp, ?_, ?_, by simp⟩
  · intro x hx
    simp at hx
    rw [hx]; exact h.nil
  · intro x _; simp
  · intro x _; simp
theorem Bfs.low {N : List Wd} {d : Wd → Bool} {P Q : List Wd} {x : Wd} (h : Bfs N d P (x :: Q)) : ∀ k, ∀ y ∈ N, y.length = k → k ≤ x.length → d y = true := by
  intro k
  induction k using Nat.strongRecOn with
  | ind k ih =>
    intro y hy hk hle
    rw [h.done y hy]
    by_cases h0 : y = []
    · exact .inl h0
    · right
      refine ⟨?_, h0⟩
      have hz : y.dropLast ∈ N := by
        refine h.tr.cl y.dropLast (y.getLast h0) ?_
        rw [List.dropLast_concat_getLast h0]; exact hy
      have hpos := List.length_pos_iff.2 h0
      have hl : y.dropLast.length = k - 1 := by rw [List.length_dropLast, hk]
      have hd := ih (k - 1) (by omega) y.dropLast hz hl (by omega)
      have hm := (h.pq _ hz).1 hd
      rcases List.mem_append.1 hm with hm | hm
      · exact hm
      · exfalso
        rcases List.mem_cons.1 hm with e | e
        · rw [e] at hl; omega
        · have := (List.pairwise_cons.1 h.srt).1 _ e
          omega
theorem Bfs.low' {N : List Wd} {d : Wd → Bool} {P Q : List Wd} {x : Wd} (h : Bfs N d P (x :: Q)) (y : Wd) (hy : y ∈ N) (hl : y.length ≤ x.length) : d y = true := h.low y.length y hy rfl hl
theorem Bfs.fresh {N : List Wd} {d : Wd → Bool} {P Q : List Wd} {x : Wd} (h : Bfs N d P (x :: Q)) (c : UInt8) (hy : x ++ [c] ∈ N) : d (x ++ [c]) = false := by
  rw [Bool.eq_false_iff]
  intro hd
  rcases (h.done _ hy).1 hd with e | ⟨e, _⟩
  · simp at e
  · rw [List.dropLast_concat] at e
    have := h.nd
    rw [List.nodup_append] at this
    exact this.2.2 x e x (by simp) rfl
theorem Bfs.next {N : List Wd} {d : Wd → Bool} {P Q : List Wd} {x : Wd} (h : Bfs N d P (x :: Q)) : Bfs N (fun y => d y || (kids N x 256).contains y) (P ++ [x]) (Q ++ kids N x 256) := by
  have hkd : ∀ y ∈ kids N x 256, d y = false := by
    intro y hy
    obtain ⟨b, _, h2, rfl⟩ := mem_kids.1 hy
    exact h.fresh _ h2
  have hkl : ∀ y ∈ kids N x 256, y.length = x.length + 1 := by
    intro y hy
    obtain ⟨b, _, _, rfl⟩ := mem_kids.1 hy
    simp
  have hkn : ∀ y ∈ kids N x 256, y ∈ N := fun y hy => (all_kids.1 hy).1
  refine ⟨h.tr, ?_, ?_, ?_, ?_, ?_⟩
  · intro y hy
    rw [List.append_assoc] at hy
    rcases List.mem_append.1 hy with hy | hy
    · exact h.sub y (List.mem_append_left _ hy)
    · rcases List.mem_append.1 hy with hy | hy
      · exact h.sub y (List.mem_append_right _ (by rw [List.mem_singleton.1 hy]; simp))
      · rcases List.mem_append.1 hy with hy | hy
        · exact h.sub y (List.mem_append_right _ (by simp [hy]))
        · exact hkn y hy
  · have e : P ++ [x] ++ (Q ++ kids N x 256) = (P ++ x :: Q) ++ kids N x 256 := by simp
    rw [e, List.nodup_append]
    refine ⟨h.nd, kids_nd N x 256 (Nat.le_refl _), ?_⟩
    intro a ha b hb e
    subst e
    have h1 := (h.pq a (h.sub a ha)).2 ha
    rw [hkd a hb] at h1
    cases h1
  · intro y hy
    rw [Bool.or_eq_true, List.contains_iff_mem, all_kids, h.done y hy]
    constructor
    · rintro ((e | ⟨e, e2⟩) | ⟨_, e2, e3⟩)
      · exact .inl e
      · exact .inr ⟨List.mem_append_left _ e, e2⟩
      · exact .inr ⟨by rw [e3]; simp, e2⟩
    · rintro (e | ⟨e, e2⟩)
      · exact .inl (.inl e)
      · rcases List.mem_append.1 e with e | e
        · exact .inl (.inr ⟨e, e2⟩)
        · exact .inr ⟨hy, e2, List.mem_singleton.1 e⟩
  · intro y hy
    rw [Bool.or_eq_true, List.contains_iff_mem, h.pq y hy]
    simp only [List.mem_append, List.mem_cons, List.mem_singleton, List.not_mem_nil, or_false]
    constructor
    · rintro ((e | e | e) | e)
      · exact .inl (.inl e)
      · exact .inl (.inr e)
      · exact .inr (.inl e)
      · exact .inr (.inr e)
    · rintro ((e | e) | (e | e))
      · exact .inl (.inl e)
      · exact .inl (.inr (.inl e))
      · exact .inl (.inr (.inr e))
      · exact .inr e
  · rw [List.pairwise_append]
    have hs := List.pairwise_cons.1 h.srt
    refine ⟨hs.2, ?_, ?_⟩
    · have hn := kids_nd N x 256 (Nat.le_refl _)
      refine List.Pairwise.imp_of_mem ?_ hn
      intro a b ha hb _
      rw [hkl a ha, hkl b hb]; omega
    · intro a ha b hb
      have := hs.1 a ha
      rw [hkl b hb]; omega
theorem Bfs.all {N : List Wd} {d : Wd → Bool} {P : List Wd} (h : Bfs N d P []) : ∀ k, ∀ y ∈ N, y.length = k → d y = true := by
  intro k
  induction k using Nat.strongRecOn with
  | ind k ih =>
    intro y hy hk
    rw [h.done y hy]
    by_cases h0 : y = []
    · exact .inl h0
    · right
      refine ⟨?_, h0⟩
      have hz : y.dropLast ∈ N := by
        refine h.tr.cl y.dropLast (y.getLast h0) ?_
        rw [List.dropLast_concat_getLast h0]; exact hy
      have hpos := List.length_pos_iff.2 h0
      have hl : y.dropLast.length = k - 1 := by rw [List.length_dropLast, hk]
      have hm := (h.pq _ hz).1 (ih (k - 1) (by omega) y.dropLast hz hl)
      rwa [List.append_nil] at hm
theorem nd_len : ∀ (A N : List Wd), A.Nodup → (∀ x ∈ A, x ∈ N) → A.length ≤ N.length
  | [], N, _, _ => Nat.zero_le _
  | a :: A, N, hn, hs => by
    have hc := List.nodup_cons.1 hn
    have ha := hs a (by simp)
    have ih := nd_len A (N.erase a) hc.2 (fun x hx => (List.mem_erase_of_ne (show x ≠ a from fun e => hc.1 (e ▸ hx))).2 (hs x (by simp [hx])))
    rw [List.length_erase_of_mem ha] at ih
    have := List.length_pos_of_mem ha
    simp
    omega
theorem Bfs.few {N : List Wd} {d : Wd → Bool} {P Q : List Wd} (h : Bfs N d P Q) : P.length + Q.length ≤ N.length := by
  have := nd_len _ _ h.nd (fun x hx => h.sub x hx)
  rwa [List.length_append] at this
/-- a node's fail and ends, as far as they are told -/
def failOf (N : List Wd) (d : Wd → Bool) (x : Wd) : Nat := if d x = true then ix N (lps N x) else 0
def endsOf (ps : List Wd) (d : Wd → Bool) (x : Wd) : List Nat := if d x = true then endsW ps x else own ps x
end Aho
end Go.Proofs.Ytkahceijhokmoaa
