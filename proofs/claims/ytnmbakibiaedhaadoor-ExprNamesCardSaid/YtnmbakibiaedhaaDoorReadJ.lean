/- The law ExprAgain: its facts. -/
import Derived.Test.YtnmbakibiaedhaaDoorReadI
import Derived.Test.YtnmbakibiaedhaaDoorErrAt
namespace Go.Proofs.YtnmbakibiaedhaaDoor
open Go.RowKit
set_option linter.unusedVariables false
set_option linter.unusedSimpArgs false
open Rd
open Ex (X levels)
/-- what is read of a text: all of it -/
theorem reads_total (s : List UInt8) (hs : s.length ≤ 3000) : Lex.lexA s 0 = none ∨ ∃ T o, Lex.lexA s 0 = some T ∧ Ex.Par Num.numOf s.length (.lev 0) 0 T o := by
  cases h : Lex.lexA s 0 with
  | none => exact .inl rfl
  | some T =>
    obtain ⟨o, ho⟩ := Ex.total (num := Num.numOf) (E := s.length) T.length T 0 (Nat.le_refl _) (fun t ht => (Ex.words s.length s 0 T (Nat.le_refl _) h t ht).1) (by omega) 0 (by omega)
    exact .inr ⟨T, o, rfl, ho⟩
theorem long_any (l : List UInt8) (w : World) : Calls Tryd.prog 11 #[.string (bstr l)] w fun e w' => e = .returned (.bool (decide (900 < l.length))) ∧ w = w' := by
  by_cases h : 900 < l.length
  · have d1 : decide ((900 : Int) < (l.length : Int)) = true := decide_eq_true (by omega)
    rw [decide_eq_true h]
    go_enter Tryd.func11, Tryd.ntmps11
    go_wp2_with fail
    go_ret
    exact ⟨rfl, rfl⟩
  · have d1 : decide ((900 : Int) < (l.length : Int)) = false := decide_eq_false (by omega)
    rw [decide_eq_false h]
    go_enter Tryd.func11, Tryd.ntmps11
    go_wp2_with fail
    go_ret
    exact ⟨rfl, rfl⟩
/-- an error that is told -/
theorem Tell_err {w : World} {v : Value} {n : Nat} (h : ErrIs w v n) (hg : ErrType w) : Calls Tryd.prog 14 #[v] w fun e w' => e = .returned (.int .i64 (n : Nat)) ∧ Below w.heap.size w w' := by
  rcases h with rfl | ⟨g, p, rfl, hrow⟩
  · exact Tell_errno n w hg
  · exact (Tell_at g n p w hg hrow).mono fun e w' h => ⟨h.1, h.2⟩
/-- how big: nodes, and what is written -/
def nodes : X → Nat
  | .bin _ _ l r => nodes l + nodes r + 1
  | _ => 1
theorem nodes_read {num : Ex.NumOf} {E : Nat} {c : Ex.Cat} {d : Nat} {T : List Rd.Tok} {o : Ex.Out} (h : Ex.Par num E c d T o) : ∀ x R, o = .ok x R → nodes x + R.length ≤ T.length + (match c with | .loop _ y => nodes y | _ => 0) := by
  induction h with
  | top _ ih => intro x R e; exact ih x R e
  | lev _ _ _ ih1 ih2 =>
    intro x R e
    have h1 := ih1 _ _ rfl
    have h2 := ih2 x R e
    simp only at h1 h2 ⊢
    omega
  | levBad => intro x R e; cases e
  | done _ => intro x R e; cases e; simp only; omega
  | more _ _ _ ih1 ih2 =>
    intro x R e
    have h1 := ih1 _ _ rfl
    have h2 := ih2 x R e
    simp only [nodes, List.length_cons] at h1 h2 ⊢
    omega
  | moreBad => intro x R e; cases e
  | paren _ _ _ _ ih =>
    intro x R e
    cases e
    have h1 := ih _ _ rfl
    simp only [List.length_cons] at h1 ⊢
    omega
  | parenNone => intro x R e; cases e
  | parenBad => intro x R e; cases e
  | deep => intro x R e; cases e
  | name => intro x R e; cases e; simp only [nodes, List.length_cons]; omega
  | nameLong => intro x R e; cases e
  | none => intro x R e; cases e
  | mark => intro x R e; cases e
  | num => intro x R e; cases e; simp only [nodes, List.length_cons]; omega
  | numBad => intro x R e; cases e
theorem level_short (k : Nat) : ∀ m ∈ levels k, m.length ≤ 2 := by
  intro m hm
  exact (Lex.marks_ne m (Ex.level_mark k m hm).1).2
theorem wdt_le (n : Nat) : Num.wdt n ≤ 24 := by
  unfold Num.wdt
  cases h : (List.range 25).find? (fun j => decide (1 ≤ j) && decide (n < 10 ^ j)) with
  | none => simp
  | some j =>
    have := List.mem_of_find?_eq_some h
    rw [List.mem_range] at this
    simp only [Option.getD_some]; omega
theorem pr_length : ∀ x : X, Ex.Fine Num.numOf Num.dec x → (Ex.pr Num.dec x).length ≤ 30 * nodes x
  | .num _ n, h => by
    have := wdt_le n
    show (Num.dec n).length ≤ _
    rw [Num.dec, Digits.ds_length]
    simp only [nodes]; omega
  | .name _ s, h => by
    have := h.2.1
    show s.length ≤ _
    simp only [nodes]; omega
  | .bin _ op l r, h => by
    have h1 := pr_length l h.2.1
    have h2 := pr_length r h.2.2
    have h3 := level_short _ op (Ex.level_of op h.1)
    have pl : ∀ (y : X) k, (partOf y k).length ≤ (Ex.pr Num.dec y).length + 2 := by
      intro y k
      unfold partOf
      split
      · simp
      · omega
    have e1 := pl l (Ex.opLevel op)
    have e2 := pl r (Ex.opLevel op + 1)
    rw [pr_bin]
    simp only [List.length_append, List.length_cons, nodes]
    omega
theorem toks_le : ∀ (n : Nat) (l : List UInt8) (i : Nat) (T : List Rd.Tok), l.length ≤ n → Lex.lexA l i = some T → T.length ≤ l.length ∧ ∀ t ∈ T, t.1.length ≤ l.length := by
  intro n
  induction n with
  | zero =>
    intro l i T h hT
    obtain rfl := List.eq_nil_of_length_eq_zero (Nat.le_zero.1 h)
    rw [Lex.lexA_nil] at hT
    cases hT
    exact ⟨Nat.le_refl _, fun t ht => by cases ht⟩
  | succ n ih =>
    intro l i T h hT
    cases l with
    | nil => rw [Lex.lexA_nil] at hT; cases hT; exact ⟨Nat.le_refl _, fun t ht => by cases ht⟩
    | cons c l =>
      rw [List.length_cons] at h
      by_cases h1 : c = 32 ∨ c = 10 ∨ c = 9
      · rw [Lex.lexA_blank c l i h1] at hT
        have := ih l _ T (by omega) hT
        exact ⟨by rw [List.length_cons]; omega, fun t ht => by have := this.2 t ht; rw [List.length_cons]; omega⟩
      · by_cases h2 : c = 35
        · subst h2
          rw [Lex.lexA_note] at hT
          have hp := Lex.note_pos l
          have := ih _ _ T (by rw [List.length_drop, List.length_cons]; omega) hT
          rw [List.length_drop] at this
          exact ⟨by omega, fun t ht => by have := this.2 t ht; omega⟩
        · by_cases h3 : Lex.next (c :: l) = 0
          · rw [Lex.lexA_bad c l i h1 h2 h3] at hT; cases hT
          · rw [Lex.lexA_tok c l i h1 h2 h3, Option.map_eq_some_iff] at hT
            obtain ⟨T', hT', rfl⟩ := hT
            have := ih _ _ T' (by rw [List.length_drop, List.length_cons]; omega) hT'
            rw [List.length_drop] at this
            refine ⟨by rw [List.length_cons, List.length_cons]; rw [List.length_cons] at this; omega, fun t ht => ?_⟩
            rcases List.mem_cons.1 ht with rfl | ht
            · simp only [List.length_take]; omega
            · have := this.2 t ht; omega
end Go.Proofs.YtnmbakibiaedhaaDoor
