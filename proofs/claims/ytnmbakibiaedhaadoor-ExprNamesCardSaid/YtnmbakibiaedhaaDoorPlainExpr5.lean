/- The text in which a name has become its number: it is read as the same expression. -/
import Derived.Test.YtnmbakibiaedhaaDoorPlainExpr4
namespace Go.Proofs.YtnmbakibiaedhaaDoor
set_option linter.unusedVariables false
set_option linter.unusedSimpArgs false
namespace Ex
theorem good_dec (n : Nat) (hn : n < 9223372036854775808) : Lex.Good (Num.dec n) := by
  obtain ⟨h1, h2, _⟩ := num_ok (Num.dec n) n (Num.numOf_dec n hn)
  cases h : Num.dec n with
  | nil => exact absurd h h1
  | cons c l =>
    rw [h] at h2
    have hw : ∀ b ∈ c :: l, Lex.word b = true := fun b hb => digit_word b (h2 b hb)
    have hc := h2 c (by simp)
    unfold Lex.digit at hc
    have hc2 := of_decide_eq_true hc
    have hne : ∀ k : Nat, k < 48 → c ≠ UInt8.ofNat k := by
      intro k hk e
      rw [e] at hc2
      have : (UInt8.ofNat k).toNat = k := by simp; omega
      omega
    refine ⟨c, l, rfl, ?_, hne 35 (by omega), fun d rest hd => ?_⟩
    · rintro (e | e | e)
      · exact hne 32 (by omega) e
      · exact hne 10 (by omega) e
      · exact hne 9 (by omega) e
    · rw [List.cons_append, Lex.next_cons, if_pos (hw c (by simp)), ← List.cons_append, Lex.takeWhile_stop _ d rest (Lex.word_not d hd) _ hw]
def subs (nm : List UInt8) (n : Nat) (T : List Tok) : List Tok := T.map fun t => (sub Num.dec nm n t.1, t.2)
def said (nm : List UInt8) (n : Nat) (T : List Tok) : List UInt8 := Lex.join (subs nm n T) [32]
theorem said_nil (nm : List UInt8) (n : Nat) : said nm n [] = [] := rfl
theorem said_snoc (nm : List UInt8) (n : Nat) (T : List Tok) (t : Tok) : said nm n (T ++ [t]) = said nm n T ++ (sub Num.dec nm n t.1 ++ [32]) := by
  unfold said subs
  rw [List.map_append, List.map_singleton, Lex.join_snoc]
theorem said_read {l : List UInt8} {T : List Tok} {E E' : Nat} {x : X} (nm : List UInt8) (n : Nat) {cn : UInt8} {rn : List UInt8} (hc : nm = cn :: rn) (hl : Lex.letter cn.toNat = true) (hn : n < 9223372036854775808)
    (hT : Lex.lexA l 0 = some T) (hp : Par Num.numOf E (.lev 0) 0 T (.ok x [])) : ∃ T' y, Lex.lexA (said nm n T) 0 = some T' ∧ Sub nm n x y ∧ Par Num.numOf E' (.lev 0) 0 T' (.ok y []) := by
  have hg := Lex.good_all l.length l 0 T (Nat.le_refl _) hT
  obtain ⟨T', h1, h2⟩ := Lex.again [32] (by decide) (subs nm n T) 0 (by
    intro t ht
    unfold subs at ht
    rw [List.mem_map] at ht
    obtain ⟨u, hu, rfl⟩ := ht
    show Lex.Good (sub Num.dec nm n u.1)
    unfold sub
    split
    · exact good_dec n hn
    · exact hg u hu)
  obtain ⟨d1, d2, d3⟩ := num_ok (Num.dec n) n (Num.numOf_dec n hn)
  obtain ⟨y, R', h3, h4, h5⟩ := sub_read (dec := Num.dec) (E' := E') nm n hc hl d1 d2 d3 hp x [] rfl (.lev 0) T' (.lev 0) (by rw [h2]; unfold subs; rw [List.map_map]; rfl)
  have hR : R' = [] := by
    cases R' with
    | nil => rfl
    | cons a b => simp at h4
  subst hR
  exact ⟨T', y, h1, h3, h5⟩
/-- no piece is longer than .. -/
theorem said_length (nm : List UInt8) (n : Nat) (hd : (Num.dec n).length ≤ 24) : ∀ (T : List Tok), (∀ t ∈ T, t.1.length ≤ 900) → (said nm n T).length ≤ 925 * T.length := by
  intro T
  induction T with
  | nil => intro _; simp [said, subs, Lex.join]
  | cons t T ih =>
    intro h
    have := ih fun k hk => h k (by simp [hk])
    have ht := h t (by simp)
    have e : said nm n (t :: T) = (sub Num.dec nm n t.1 ++ [32]) ++ said nm n T := by simp [said, subs, Lex.join]
    rw [e, List.length_append, List.length_append]
    simp only [List.length_cons, List.length_nil]
    have : (sub Num.dec nm n t.1).length ≤ 900 := by
      unfold sub
      split
      · omega
      · exact ht
    omega
end Ex
end Go.Proofs.YtnmbakibiaedhaaDoor
