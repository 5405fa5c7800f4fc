/- The lines of a dump, of a plain text, of a dump turned round: they are read as the bytes. -/
import Derived.Test.YtenhblpegobbjaaDoorLoadB
import Derived.Test.YtenhblpegobbjaaDoorDumpB
namespace Go.Proofs.YtenhblpegobbjaaDoor
open Go.RowKit
set_option linter.unusedVariables false
set_option linter.unusedSimpArgs false
open Xx
theorem lines_of (n : Nat) (f : Nat → List UInt8) (t : Nat → Option Nat × List UInt8) (h1 : 1 ≤ n) (hn : n ≤ 100000) (hno : ∀ k, k < n → 10 ∉ f k) (hsh : ∀ k, k < n → (f k).length ≤ 2000) (hall : (joinNl ((List.range n).map f)).length ≤ 1000000)
    (hln : ∀ k, k < n → Ln (f k) (t k).1 (t k).2) (hf1 : ∀ k, k < n → (told ((List.range k).map t)).length ≤ 4000) (hf2 : ∀ k, k < n → ((t k).1.getD (told ((List.range k).map t)).length) + (t k).2.length ≤ 4000) :
    Lines ((List.range n).map f) ((List.range n).map t) := by
  have hg : ∀ k, k < n → ((List.range n).map f).getD k [] = f k := fun k hk => by simp [hk]
  have hg2 : ∀ k, k < n → ((List.range n).map t).getD k (none, []) = t k := fun k hk => by simp [hk]
  have htk : ∀ k, k < n → ((List.range n).map t).take k = (List.range k).map t := fun k hk => by
    rw [← List.map_take, List.take_range, Nat.min_eq_left (by omega)]
  refine ⟨by simp, fun e => ?_, ?_, ?_, by simpa using hn, hall, ?_, ?_⟩
  · have := congrArg List.length e
    simp at this
    omega
  · intro x hx
    rw [List.mem_map] at hx
    obtain ⟨k, hk, rfl⟩ := hx
    exact hno k (by simpa using hk)
  · intro x hx
    rw [List.mem_map] at hx
    obtain ⟨k, hk, rfl⟩ := hx
    exact hsh k (by simpa using hk)
  · intro k hk
    have hk' : k < n := by simpa using hk
    rw [hg k hk', hg2 k hk']
    exact hln k hk'
  · intro k hk
    have hk' : k < n := by simpa using hk
    rw [htk k hk', hg2 k hk']
    exact ⟨hf1 k hk', hf2 k hk'⟩
/-- .. and an empty line at the end -/
theorem lines_end (n : Nat) (f : Nat → List UInt8) (t : Nat → Option Nat × List UInt8) (hn : n ≤ 90000) (hno : ∀ k, k < n → 10 ∉ f k) (hsh : ∀ k, k < n → (f k).length ≤ 2000) (hall : (joinNl ((List.range n).map f ++ [[]])).length ≤ 1000000)
    (hln : ∀ k, k < n → Ln (f k) (t k).1 (t k).2) (hf1 : ∀ k, k ≤ n → (told ((List.range k).map t)).length ≤ 4000) (hf2 : ∀ k, k < n → ((t k).1.getD (told ((List.range k).map t)).length) + (t k).2.length ≤ 4000) :
    Lines ((List.range n).map f ++ [[]]) ((List.range n).map t ++ [(none, [])]) ∧ told ((List.range n).map t ++ [(none, [])]) = told ((List.range n).map t) := by
  have e1 : (List.range (n + 1)).map (fun k => if k < n then f k else []) = (List.range n).map f ++ [[]] := by
    rw [List.range_succ, List.map_append, List.map_singleton, if_neg (Nat.lt_irrefl n)]
    congr 1
    exact List.map_congr_left fun k hk => by rw [if_pos (by simpa using hk)]
  have e2 : ∀ m, m ≤ n → (List.range m).map (fun k => if k < n then t k else (none, [])) = (List.range m).map t := fun m hm => List.map_congr_left fun k hk => by
    have : k < m := by simpa using hk
    rw [if_pos (by omega)]
  have e3 : (List.range (n + 1)).map (fun k => if k < n then t k else (none, [])) = (List.range n).map t ++ [(none, [])] := by
    rw [List.range_succ, List.map_append, List.map_singleton, if_neg (Nat.lt_irrefl n), e2 n (Nat.le_refl n)]
  constructor
  · rw [← e1, ← e3]
    refine lines_of (n + 1) _ _ (by omega) (by omega) ?_ ?_ (by rw [e1]; exact hall) ?_ ?_ ?_
    · intro k hk
      split
      · rename_i h; exact hno k h
      · simp
    · intro k hk
      split
      · rename_i h; exact hsh k h
      · simp
    · intro k hk
      by_cases h : k < n
      · rw [if_pos h, if_pos h]; exact hln k h
      · rw [if_neg h, if_neg h]
        exact Ln.plain (by simp) .nil (by simp)
    · intro k hk
      rw [e2 k (by omega)]
      exact hf1 k (by omega)
    · intro k hk
      rw [e2 k (by omega)]
      by_cases h : k < n
      · rw [if_pos h]; exact hf2 k h
      · rw [if_neg h]
        have := hf1 k (by omega)
        simpa using this
  · rw [told_snoc]
    exact if_pos rfl
theorem tells_eq (s : List UInt8) (c n : Nat) : tells s c n = (List.range n).map fun k => (some (k * c), row s c k) := rfl
theorem row_fit (s : List UInt8) (c k : Nat) : k * c + (row s c k).length ≤ max (k * c) s.length := by
  rw [row, List.length_take, List.length_drop]
  omega
theorem rows_few (s : List UInt8) (c : Nat) (hc : 1 ≤ c) : rows s c ≤ s.length := by
  have h := rows_lt s c (rows s c - 1) hc
  rcases Nat.eq_zero_or_pos (rows s c) with h0 | h0
  · omega
  · have := h.1 (by omega)
    have h2 : (rows s c - 1) * 1 ≤ (rows s c - 1) * c := Nat.mul_le_mul_left _ hc
    omega
theorem line_short (s : List UInt8) (c g k : Nat) (hc : c ≤ 256) (hg : 1 ≤ g) (hgc : g ≤ c) : (lineOf c g (k * c) (row s c k)).length ≤ 1300 := by
  have h1 := lineOf_length c g (k * c) hg (row s c k) (row_len s c k)
  have h2 := row_len s c k
  have h3 : (c + g - 1) / g ≤ 511 := Nat.le_trans (Nat.div_le_self _ _) (by omega)
  omega
theorem dump_back (s : List UInt8) (c g : Nat) (hs : s.length ≤ 600) (hc1 : 1 ≤ c) (hc : c ≤ 256) (hg : 1 ≤ g) (hgc : g ≤ c) : ∃ L T, dump s c g (rows s c) = joinNl L ∧ Lines L T ∧ told T = s := by
  have hrf := rows_few s c hc1
  have hlt := fun k => rows_lt s c k hc1
  have hd : dump s c g (rows s c) = joinNl ((List.range (rows s c)).map (fun k => lineOf c g (k * c) (row s c k)) ++ [[]]) := (joinNl_end _).symm
  obtain ⟨h1, h2⟩ := lines_end (rows s c) (fun k => lineOf c g (k * c) (row s c k)) (fun k => (some (k * c), row s c k)) (by omega) (fun k _ => lineOf_no c g _ _) (fun k _ => Nat.le_trans (line_short s c g k hc hg hgc) (by omega))
    (by rw [← hd]; have := dump_length s c g hg hc hgc (rows s c); omega)
    (fun k hk => lineOf_ln c g _ _ (row_ne s c k hc1 ((hlt k).1 hk)) (by have := (hlt k).1 hk; omega))
    (fun k hk => by have := tells_told s c hc1 k hk; rw [tells_eq] at this; rw [this, List.length_take]; omega)
    (fun k hk => by have := row_fit s c k; have := (hlt k).1 hk; simp only [Option.getD_some]; omega)
  refine ⟨_, _, hd, h1, ?_⟩
  rw [h2, ← tells_eq, tells_told s c hc1 _ (Nat.le_refl _), List.take_of_length_le (rows_le s c hc1)]
theorem plain_back (s : List UInt8) (hs : s.length ≤ 600) : ∃ L T, plainTo s (rows s 30) = joinNl L ∧ Lines L T ∧ told T = s := by
  have hrf := rows_few s 30 (by omega)
  have hlt := fun k => rows_lt s 30 k (by omega)
  have hd := plainTo_join s (rows s 30)
  have ht := fun k (hk : k ≤ rows s 30) => plain_told s k hk
  obtain ⟨h1, h2⟩ := lines_end (rows s 30) (fun k => Digits.hex (row s 30 k)) (fun k => (none, row s 30 k)) (by omega) (fun k _ => hex_no 10 (.inl rfl) _) (fun k _ => by rw [hex_length]; have := row_len s 30 k; omega)
    (by rw [← hd]; have := plainTo_length s (rows s 30); omega)
    (fun k hk => Ln.plain (hex_no 58 (.inr rfl) _) (toks_hex _) (hex_start _))
    (fun k hk => by rw [ht k hk, List.length_take]; omega)
    (fun k hk => by rw [ht k (by omega), Option.getD_none, List.length_take]; have := row_len s 30 k; show min (k * 30) s.length + (row s 30 k).length ≤ 4000; omega)
  refine ⟨_, _, hd, h1, ?_⟩
  rw [h2, ht _ (Nat.le_refl _), List.take_of_length_le (rows_le s 30 (by omega))]
theorem turn_back (s : List UInt8) (c : Nat) (hs : s.length ≤ 600) (hne : s ≠ []) (hc1 : 1 ≤ c) (hc : c ≤ 256) : ∃ T, Lines (linesOf s c 1 (rows s c)).reverse T ∧ told T = s := by
  have hrf := rows_few s c hc1
  have hlt := fun k => rows_lt s c k hc1
  have hpos : 0 < rows s c := (hlt 0).2 (by have := List.length_pos_iff.2 hne; omega)
  have hrev : (linesOf s c 1 (rows s c)).reverse = (List.range (rows s c)).map fun i => lineOf c 1 ((rows s c - 1 - i) * c) (row s c (rows s c - 1 - i)) := by
    apply List.ext_getElem
    · simp [linesOf]
    · intro i h1 h2
      simp [linesOf]
  have hb := fun k (hk : k ≤ rows s c) => back_told s c hc1 k (rows s c - k) (by omega)
  rw [hrev]
  refine ⟨_, lines_of (rows s c) _ (fun i => (some ((rows s c - 1 - i) * c), row s c (rows s c - 1 - i))) (by omega) (by omega) (fun k _ => lineOf_no c 1 _ _) (fun k _ => Nat.le_trans (line_short s c 1 _ hc (by omega) (by omega)) (by omega)) ?_ (fun k hk => ?_) (fun k hk => ?_) (fun k hk => ?_), ?_⟩
  · have key : ∀ (L : List (List UInt8)), (∀ x ∈ L, x.length ≤ 1300) → (joinNl L).length ≤ 1301 * L.length := by
      intro L
      induction L with
      | nil => intro _; simp [joinNl]
      | cons x r ih =>
        intro h
        have ih := ih fun y hy => h y (by simp [hy])
        have hx := h x (by simp)
        cases r with
        | nil => show x.length ≤ _; simp only [List.length_cons, List.length_nil]; omega
        | cons y r =>
          rw [joinNl_cons x _ (by simp), List.length_append, List.length_cons]
          simp only [List.length_cons] at ih ⊢
          omega
    have := key ((List.range (rows s c)).map fun i => lineOf c 1 ((rows s c - 1 - i) * c) (row s c (rows s c - 1 - i))) (by
      intro x hx
      rw [List.mem_map] at hx
      obtain ⟨k, _, rfl⟩ := hx
      exact line_short s c 1 _ hc (by omega) (by omega))
    rw [List.length_map, List.length_range] at this
    omega
  · have := (hlt (rows s c - 1 - k)).1 (by omega)
    exact lineOf_ln c 1 _ _ (row_ne s c _ hc1 this) (by omega)
  · rw [hb k (by omega)]
    have := ahead_length s c (rows s c - k)
    omega
  · have := (hlt (rows s c - 1 - k)).1 (by omega)
    have := row_fit s c (rows s c - 1 - k)
    simp only [Option.getD_some]
    omega
  · rw [hb _ (Nat.le_refl _), Nat.sub_self, ahead_zero]
end Go.Proofs.YtenhblpegobbjaaDoor
