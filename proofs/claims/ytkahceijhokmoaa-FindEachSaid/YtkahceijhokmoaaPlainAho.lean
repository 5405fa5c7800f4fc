/- Several patterns at once, in plain words: the tree of beginnings, its fails, its ends. No program in sight. -/
import Derived.Test.YtkahceijhokmoaaPlainFind
namespace Go.Proofs.Ytkahceijhokmoaa
set_option linter.unusedVariables false
set_option linter.unusedSimpArgs false
namespace Aho
abbrev Wd := List UInt8
/-- a tree of beginnings: its nodes are words; each word's beginning is there -/
structure Tree (N : List Wd) : Prop where
  nd : N.Nodup
  root : N[0]? = some []
  cl : ∀ x c, x ++ [c] ∈ N → x ∈ N
theorem Tree.nil {N : List Wd} (h : Tree N) : [] ∈ N := List.mem_of_getElem? h.root
theorem Tree.pos {N : List Wd} (h : Tree N) : 0 < N.length := List.length_pos_of_mem h.nil
theorem tree_one : Tree [[]] := ⟨by simp, rfl, fun x c h => by simp at h⟩
def ix (N : List Wd) (x : Wd) : Nat := N.idxOf x
theorem ix_lt {N : List Wd} {x : Wd} (h : x ∈ N) : ix N x < N.length := List.idxOf_lt_length_iff.2 h
theorem ix_get {N : List Wd} {x : Wd} (h : x ∈ N) : N.getD (ix N x) [] = x := by
  rw [List.getD_eq_getElem?_getD, List.getElem?_eq_getElem (ix_lt h)]
  exact List.getElem_idxOf (ix_lt h)
theorem get_ix {N : List Wd} (hN : N.Nodup) {i : Nat} (h : i < N.length) : ix N (N.getD i []) = i := by
  rw [List.getD_eq_getElem?_getD, List.getElem?_eq_getElem h]
  exact hN.idxOf_getElem i h
theorem ix_root {N : List Wd} (h : Tree N) : ix N [] = 0 := by
  have := get_ix h.nd h.pos
  rwa [List.getD_eq_getElem?_getD, h.root] at this
theorem ix_inj {N : List Wd} {x y : Wd} (hx : x ∈ N) (hy : y ∈ N) (h : ix N x = ix N y) : x = y := by rw [← ix_get hx, h, ix_get hy]
theorem ix_app {N M : List Wd} {x : Wd} (h : x ∈ N) : ix (N ++ M) x = ix N x := by unfold ix; rw [List.idxOf_append, if_pos h]
theorem ix_new {N : List Wd} {x : Wd} (h : x ∉ N) : ix (N ++ [x]) x = N.length := by unfold ix; rw [List.idxOf_append, if_neg h]; simp
/-- where a byte leads to from a node -/
def child (N : List Wd) (x : Wd) (c : UInt8) : Option Nat := if x ++ [c] ∈ N then some (ix N (x ++ [c])) else none
theorem snoc_inj {x y : Wd} {c d : UInt8} (h : x ++ [c] = y ++ [d]) : x = y ∧ c = d := by
  have := List.append_inj' h rfl
  exact ⟨this.1, by simpa using this.2⟩
theorem Tree.add {N : List Wd} (h : Tree N) {z : Wd} {c : UInt8} (hz : z ∈ N) (hn : z ++ [c] ∉ N) : Tree (N ++ [z ++ [c]]) := by
  refine ⟨?_, ?_, ?_⟩
  · rw [List.nodup_append]
    refine ⟨h.nd, by simp, ?_⟩
    intro a ha b hb e
    rw [List.mem_singleton.1 hb] at e
    exact hn (e ▸ ha)
  · rw [List.getElem?_append_left h.pos]; exact h.root
  · intro x d hx
    rcases List.mem_append.1 hx with h1 | h1
    · exact List.mem_append_left _ (h.cl x d h1)
    · obtain ⟨e, _⟩ := snoc_inj (List.mem_singleton.1 h1)
      rw [e]; exact List.mem_append_left _ hz
theorem child_add {N : List Wd} (h : Tree N) {z : Wd} {c : UInt8} (hz : z ∈ N) (hn : z ++ [c] ∉ N) (x : Wd) (hx : x ∈ N) (d : UInt8) :
    child (N ++ [z ++ [c]]) x d = if x = z ∧ d = c then some N.length else child N x d := by
  unfold child
  by_cases e : x = z ∧ d = c
  · obtain ⟨rfl, rfl⟩ := e
    rw [if_pos (by simp), if_pos ⟨rfl, rfl⟩, ix_new hn]
  · rw [if_neg e]
    by_cases hm : x ++ [d] ∈ N
    · rw [if_pos (by simp [hm]), if_pos hm, ix_app hm]
    · rw [if_neg hm, if_neg]
      intro h1
      rcases List.mem_append.1 h1 with h1 | h1
      · exact hm h1
      · exact e (snoc_inj (List.mem_singleton.1 h1))
theorem child_new {N : List Wd} (h : Tree N) {z : Wd} {c : UInt8} (hz : z ∈ N) (hn : z ++ [c] ∉ N) (d : UInt8) : child (N ++ [z ++ [c]]) (z ++ [c]) d = none := by
  unfold child
  rw [if_neg]
  intro h1
  rcases List.mem_append.1 h1 with h1 | h1
  · exact hn (h.cl _ _ h1)
  · have := congrArg List.length (List.mem_singleton.1 h1)
    simp at this
/-- the longest end of a word that is a node -/
def lsuf (N : List Wd) : Wd → Wd
  | [] => []
  | c :: l => if c :: l ∈ N then c :: l else lsuf N l
def lps (N : List Wd) (x : Wd) : Wd := lsuf N x.tail
theorem lsuf_suf (N : List Wd) : ∀ x, lsuf N x <:+ x
  | [] => List.suffix_refl _
  | c :: l => by
    rw [lsuf]
    split
    · exact List.suffix_refl _
    · exact (lsuf_suf N l).trans (List.suffix_cons c l)
theorem lsuf_mem {N : List Wd} (h : [] ∈ N) : ∀ x, lsuf N x ∈ N
  | [] => h
  | c :: l => by
    rw [lsuf]
    split
    · assumption
    · exact lsuf_mem h l
theorem lsuf_self {N : List Wd} {x : Wd} (h : x ∈ N) : lsuf N x = x := by
  cases x with
  | nil => rfl
  | cons c l => rw [lsuf, if_pos h]
theorem lsuf_len (N : List Wd) (x : Wd) : (lsuf N x).length ≤ x.length := (lsuf_suf N x).length_le
theorem lps_len (N : List Wd) (x : Wd) (h : x ≠ []) : (lps N x).length < x.length := by
  have := lsuf_len N x.tail
  unfold lps
  rw [List.length_tail] at this
  have := List.length_pos_iff.2 h
  omega
theorem lps_mem {N : List Wd} (h : [] ∈ N) (x : Wd) : lps N x ∈ N := lsuf_mem h _
theorem lsuf_snoc {N : List Wd} (h : Tree N) (c : UInt8) : ∀ x, lsuf N (x ++ [c]) = lsuf N (lsuf N x ++ [c])
  | [] => rfl
  | d :: l => by
    by_cases hm : d :: l ∈ N
    · rw [lsuf_self hm]
    · rw [lsuf, if_neg hm, List.cons_append, lsuf, if_neg (show ¬ d :: (l ++ [c]) ∈ N from fun h1 => hm (h.cl (d :: l) c h1)), lsuf_snoc h c l]
/-- one step from a node -/
theorem step_eq {N : List Wd} (h : Tree N) (x : Wd) (c : UInt8) : lsuf N (x ++ [c]) = if x ++ [c] ∈ N then x ++ [c] else if x = [] then [] else lsuf N (lps N x ++ [c]) := by
  by_cases h1 : x ++ [c] ∈ N
  · rw [if_pos h1, lsuf_self h1]
  · rw [if_neg h1]
    cases x with
    | nil => rw [if_pos rfl, List.nil_append, lsuf, if_neg (show ¬ [c] ∈ N from h1)]; rfl
    | cons d l =>
      rw [if_neg (by simp), List.cons_append, lsuf, if_neg (show ¬ d :: (l ++ [c]) ∈ N from h1), lsuf_snoc h]
      rfl
theorem lps_snoc {N : List Wd} (h : Tree N) (x : Wd) (c : UInt8) (hx : x ≠ []) : lps N (x ++ [c]) = lsuf N (lps N x ++ [c]) := by
  cases x with
  | nil => exact absurd rfl hx
  | cons d l => exact lsuf_snoc h c l
theorem lps_one {N : List Wd} (c : UInt8) : lps N [c] = [] := rfl
/-- which patterns a word is -/
def own (ps : List Wd) (x : Wd) : List Nat := (List.range ps.length).filter fun k => decide (ps.getD k [] = x)
/-- which patterns end a word -/
def endsW (ps : List Wd) : Wd → List Nat
  | [] => own ps []
  | c :: l => own ps (c :: l) ++ endsW ps l
theorem own_nil {ps : List Wd} (h : ∀ p ∈ ps, p ≠ []) : own ps [] = [] := by
  unfold own
  rw [List.filter_eq_nil_iff]
  intro k hk
  rw [List.mem_range] at hk
  have := h (ps.getD k []) (by rw [List.getD_eq_getElem?_getD, List.getElem?_eq_getElem hk]; exact List.getElem_mem hk)
  simpa using this
theorem own_none {ps N : List Wd} {x : Wd} (h : ∀ p ∈ ps, p ∈ N) (hx : x ∉ N) : own ps x = [] := by
  unfold own
  rw [List.filter_eq_nil_iff]
  intro k hk
  rw [List.mem_range] at hk
  have h1 := h (ps.getD k []) (by rw [List.getD_eq_getElem?_getD, List.getElem?_eq_getElem hk]; exact List.getElem_mem hk)
  intro e
  exact hx (of_decide_eq_true e ▸ h1)
theorem ends_lsuf {ps N : List Wd} (h : ∀ p ∈ ps, p ∈ N) : ∀ x, endsW ps (lsuf N x) = endsW ps x
  | [] => rfl
  | c :: l => by
    by_cases hm : c :: l ∈ N
    · rw [lsuf_self hm]
    · rw [lsuf, if_neg hm, endsW, own_none h hm, List.nil_append, ends_lsuf h l]
theorem ends_lps {ps N : List Wd} (h : ∀ p ∈ ps, p ∈ N) (h0 : ∀ p ∈ ps, p ≠ []) (x : Wd) : endsW ps x = own ps x ++ endsW ps (lps N x) := by
  cases x with
  | nil => show own ps [] = own ps [] ++ own ps []; rw [own_nil h0]; rfl
  | cons c l => rw [endsW]; unfold lps; rw [List.tail_cons, ends_lsuf h]
theorem own_only (ps : List Wd) (x : Wd) (k : Nat) : (own ps x).filter (fun j => decide (j = k)) = if k < ps.length ∧ ps.getD k [] = x then [k] else [] := by
  unfold own
  rw [List.filter_filter]
  have key : ∀ n, (List.range n).filter (fun a => decide (a = k) && decide (ps.getD a [] = x)) = if k < n ∧ ps.getD k [] = x then [k] else [] := by
    intro n
    induction n with
    | zero => simp
    | succ n ih =>
      rw [List.range_succ, List.filter_append, ih]
      by_cases hk : k = n
      · subst hk
        rw [if_neg (by omega)]
        by_cases hx : ps.getD k [] = x
        · rw [if_pos ⟨by omega, hx⟩]; rw [List.getD_eq_getElem?_getD] at hx; simp [hx]
        · rw [if_neg (fun e => hx e.2)]; rw [List.getD_eq_getElem?_getD] at hx; simp [hx]
      · have h1 : (List.filter (fun a => decide (a = k) && decide (ps.getD a [] = x)) [n]) = [] := by
          rw [List.filter_cons_of_neg (by simp; intro e; exact absurd e.symm hk)]; rfl
        rw [h1, List.append_nil]
        by_cases hx : ps.getD k [] = x
        · by_cases hn : k < n
          · rw [if_pos ⟨hn, hx⟩, if_pos ⟨by omega, hx⟩]
          · rw [if_neg (fun h => hn h.1), if_neg (fun h => by omega)]
        · rw [if_neg (fun h => hx h.2), if_neg (fun h => hx h.2)]
  exact key _
theorem ends_only (ps : List Wd) (k : Nat) (hk : k < ps.length) : ∀ x, (endsW ps x).filter (fun j => decide (j = k)) = if ps.getD k [] <:+ x then [k] else []
  | [] => by
    rw [endsW, own_only]
    by_cases h : ps.getD k [] = []
    · rw [if_pos ⟨hk, h⟩, if_pos (by rw [h]; exact List.suffix_refl _)]
    · rw [if_neg (fun e => h e.2), if_neg (fun e => h (List.suffix_nil.1 e))]
  | c :: l => by
    rw [endsW, List.filter_append, own_only, ends_only ps k hk l]
    by_cases h : ps.getD k [] = c :: l
    · rw [if_pos ⟨hk, h⟩, if_neg, List.append_nil, if_pos (by rw [h]; exact List.suffix_refl _)]
      intro e
      rw [h] at e
      have := e.length_le
      simp at this
      omega
    · rw [if_neg (fun e => h e.2), List.nil_append]
      have : (ps.getD k [] <:+ c :: l) ↔ ps.getD k [] <:+ l := by
        constructor
        · intro e
          rcases List.suffix_cons_iff.1 e with e | e
          · exact absurd e h
          · exact e
        · intro e; exact e.trans (List.suffix_cons c l)
      by_cases h2 : ps.getD k [] <:+ l
      · rw [if_pos h2, if_pos (this.2 h2)]
      · rw [if_neg h2, if_neg (fun e => h2 (this.1 e))]
theorem ends_lt (ps : List Wd) : ∀ x, ∀ k ∈ endsW ps x, k < ps.length ∧ ps.getD k [] <:+ x
  | [], k, hk => by
    rw [endsW, own, List.mem_filter, List.mem_range] at hk
    exact ⟨hk.1, by rw [of_decide_eq_true hk.2]; exact List.suffix_refl _⟩
  | c :: l, k, hk => by
    rw [endsW] at hk
    rcases List.mem_append.1 hk with hk | hk
    · rw [own, List.mem_filter, List.mem_range] at hk
      exact ⟨hk.1, by rw [of_decide_eq_true hk.2]; exact List.suffix_refl _⟩
    · have := ends_lt ps l k hk
      exact ⟨this.1, this.2.trans (List.suffix_cons c l)⟩
/-- what is found up to a place -/
def outW (s : Wd) (ps : List Wd) (n : Nat) : List (Nat × Nat) := (List.range n).flatMap fun i => (endsW ps (s.take (i + 1))).map fun k => (i + 1 - (ps.getD k []).length, k)
theorem outW_succ (s : Wd) (ps : List Wd) (n : Nat) : outW s ps (n + 1) = outW s ps n ++ (endsW ps (s.take (n + 1))).map fun k => (n + 1 - (ps.getD k []).length, k) := by
  unfold outW
  rw [List.range_succ, List.flatMap_append, List.flatMap_singleton]
theorem out_only (s : Wd) (ps : List Wd) (k : Nat) (hk : k < ps.length) : ∀ n, ((outW s ps n).filter fun m => decide (m.2 = k)).map (·.1) = Kmp.occ s (ps.getD k []) n
  | 0 => rfl
  | n + 1 => by
    have ih := out_only s ps k hk n
    have hstep : ((endsW ps (s.take (n + 1))).map fun k => (n + 1 - (ps.getD k []).length, k)).filter (fun m => decide (m.2 = k)) = ((endsW ps (s.take (n + 1))).filter fun j => decide (j = k)).map fun k => (n + 1 - (ps.getD k []).length, k) := by
      rw [List.filter_map]; rfl
    rw [outW_succ, List.filter_append, List.map_append, ih, hstep, ends_only ps k hk]
    unfold Kmp.occ Kmp.ends
    rw [List.range_succ, List.filter_append, List.map_append]
    congr 1
    by_cases h : ps.getD k [] <:+ s.take (n + 1)
    · rw [if_pos h, List.filter_cons_of_pos (by simpa using h)]; rfl
    · rw [if_neg h, List.filter_cons_of_neg (by simpa using h)]; rfl
/-- sorted, and of one pattern alone: where it stands -/
theorem sorted_only {s : Wd} {ps : List Wd} {S : List (Nat × Nat)} (hp : S.Perm (outW s ps s.length)) (hs : S.Pairwise fun a b => a.1 < b.1 ∨ (a.1 = b.1 ∧ a.2 ≤ b.2)) (k : Nat) (hk : k < ps.length) :
    (S.filter fun m => decide (m.2 = k)).map (·.1) = Kmp.occ s (ps.getD k []) s.length := by
  have h1 : ((S.filter fun m => decide (m.2 = k)).map (·.1)).Perm (Kmp.occ s (ps.getD k []) s.length) := by
    rw [← out_only s ps k hk]
    exact (hp.filter _).map _
  have h2 := Kmp.occ_sorted s (ps.getD k []) s.length
  have h3 : ((S.filter fun m => decide (m.2 = k)).map (·.1)).Pairwise (· < ·) := by
    have hnd : ((S.filter fun m => decide (m.2 = k)).map (·.1)).Nodup := h1.nodup_iff.2 (h2.imp fun h => Nat.ne_of_lt h)
    have hle : ((S.filter fun m => decide (m.2 = k)).map (·.1)).Pairwise (· ≤ ·) := by
      rw [List.pairwise_map]
      refine (hs.filter _).imp ?_
      intro a b h
      omega
    exact (hle.and hnd).imp fun h => Nat.lt_of_le_of_ne h.1 h.2
  exact Kmp.sorted_ext h3 h2 fun x => h1.mem_iff
end Aho
end Go.Proofs.Ytkahceijhokmoaa
