/- A name is its number: the law ExprNames in plain words. -/
import Derived.Test.YtnmbakibiaedhaaDoorPlainExpr3
namespace Go.Proofs.YtnmbakibiaedhaaDoor
set_option linter.unusedVariables false
set_option linter.unusedSimpArgs false
namespace Ex
section
variable {num : NumOf} {dec : Dec} (nm : List UInt8) (n : Nat)
def sub (dec : Dec) (nm : List UInt8) (n : Nat) (t : List UInt8) : List UInt8 := if t = nm then dec n else t
/-- a number in the place of a name -/
inductive Sub : X → X → Prop where
  | num (a b m : Nat) : Sub (.num a m) (.num b m)
  | name (a b : Nat) (s : List UInt8) : s ≠ nm → Sub (.name a s) (.name b s)
  | put (a b : Nat) : Sub (.name a nm) (.num b n)
  | bin (a b : Nat) (op : List UInt8) {l l' r r' : X} : Sub l l' → Sub r r' → Sub (.bin a op l r) (.bin b op l' r')
inductive SubC : Cat → Cat → Prop where
  | lev (k : Nat) : SubC (.lev k) (.lev k)
  | one : SubC .one .one
  | loop (k : Nat) {x y : X} : Sub nm n x y → SubC (.loop k x) (.loop k y)
theorem sub_stay {c : UInt8} {r t : List UInt8} (hc : nm = c :: r) (hl : Lex.letter c.toNat = true) (ht : ∀ d s, t = d :: s → Lex.letter d.toNat = false) : sub dec nm n t = t := by
  unfold sub
  rw [if_neg]
  intro e
  have := ht c r (by rw [e, hc])
  rw [hl] at this; cases this
theorem cons_sub {T' : List Tok} {t : Tok} {T : List Tok} {f : List UInt8 → List UInt8} (h : T'.map Prod.fst = (t :: T).map fun u => f u.1) : ∃ t' T2, T' = t' :: T2 ∧ t'.1 = f t.1 ∧ T2.map Prod.fst = T.map fun u => f u.1 := by
  rw [List.map_cons] at h
  obtain ⟨a, S1, rfl, ha, h1⟩ := List.map_eq_cons_iff.1 h
  exact ⟨a, S1, rfl, ha, h1⟩
theorem level_letter (k : Nat) (op : List UInt8) (h : op ∈ levels k) : ∀ d s, op = d :: s → Lex.letter d.toNat = false := by
  intro d s e
  obtain ⟨c, l, h1, h2, _⟩ := Lex.mark_head op (level_mark k op h).1
  rw [e] at h1
  cases h1
  unfold Lex.word at h2
  rw [Bool.or_eq_false_iff] at h2
  exact h2.1
theorem sub_read {E E' : Nat} {cn : UInt8} {rn : List UInt8} (hc : nm = cn :: rn) (hl : Lex.letter cn.toNat = true) (hd1 : dec n ≠ []) (hd2 : ∀ c ∈ dec n, Lex.digit c.toNat = true) (hd3 : num (dec n) = .inl n)
    {c : Cat} {d : Nat} {T : List Tok} {o : Out} (h : Par num E c d T o) : ∀ x R, o = .ok x R → ∀ c' T', SubC nm n c c' → T'.map Prod.fst = T.map (fun t => sub dec nm n t.1) → ∃ y R', Sub nm n x y ∧ R'.map Prod.fst = R.map (fun t => sub dec nm n t.1) ∧ Par num E' c' d T' (.ok y R') := by
  induction h with
  | top _ ih =>
    intro x R e c' T' hcc hT
    cases hcc
    obtain ⟨y, R', h1, h2, h3⟩ := ih x R e .one T' .one hT
    exact ⟨y, R', h1, h2, .top h3⟩
  | lev hk _ _ ih1 ih2 =>
    intro x R e c' T' hcc hT
    cases hcc
    obtain ⟨y, R', h1, h2, h3⟩ := ih1 _ _ rfl _ T' (.lev _) hT
    obtain ⟨z, R2, h4, h5, h6⟩ := ih2 x R e _ R' (.loop _ h1) h2
    exact ⟨z, R2, h4, h5, .lev hk h3 h6⟩
  | levBad => intro x R e; cases e
  | @done k x d T hx =>
    intro x' R e c' T' hcc hT
    cases e
    cases hcc with
    | loop _ hs =>
      refine ⟨_, T', hs, hT, .done ?_⟩
      intro t T2 e hm
      subst e
      cases T with
      | nil => simp at hT
      | cons u U =>
        have hu := hx u U rfl
        rw [List.map_cons, List.map_cons] at hT
        have ht : t.1 = sub dec nm n u.1 := (List.cons.inj hT).1
        rw [ht] at hm
        unfold sub at hm
        split at hm
        · have hne := hd1
          cases hdn : dec n with
          | nil => exact hd1 hdn
          | cons a r =>
            obtain ⟨c, l, h1, h2, _⟩ := Lex.mark_head _ (level_mark k _ hm).1
            rw [hdn] at h1
            cases h1
            have := digit_word a (hd2 a (by rw [hdn]; simp))
            rw [h2] at this; cases this
        · exact hu hm
  | @more k y d t T T2 z o ht _ _ ih1 ih2 =>
    intro x R e c' T' hcc hT
    cases hcc with
    | loop _ hs =>
      obtain ⟨t', T3, rfl, h1, h2⟩ := cons_sub hT
      rw [sub_stay nm n hc hl (level_letter k t.1 ht)] at h1
      obtain ⟨y2, R', h3, h4, h5⟩ := ih1 _ _ rfl _ T3 (.lev _) h2
      obtain ⟨z2, R2, h6, h7, h8⟩ := ih2 x R e _ R' (.loop _ (.bin t.2 t'.2 t.1 hs h3)) h4
      refine ⟨z2, R2, h6, h7, .more (by rw [h1]; exact ht) h5 ?_⟩
      rw [h1]; exact h8
  | moreBad => intro x R e; cases e
  | @paren d t T u T2 x h1 h2 _ h3 ih =>
    intro x' R e c' T' hcc hT
    cases e
    cases hcc
    obtain ⟨t', T3, rfl, h4, h5⟩ := cons_sub hT
    obtain ⟨y, R', h6, h7, h8⟩ := ih _ _ rfl _ T3 (.lev 0) h5
    obtain ⟨u', R2, rfl, h9, h10⟩ := cons_sub h7
    rw [h1, sub_stay nm n hc hl (by intro d s e; cases e; decide)] at h4
    rw [h3, sub_stay nm n hc hl (by intro d s e; cases e; decide)] at h9
    exact ⟨y, R2, h6, h10, .paren h4 h2 h8 h9⟩
  | parenNone => intro x R e; cases e
  | parenBad => intro x R e; cases e
  | deep => intro x R e; cases e
  | @name d t T c r h1 h2 h3 =>
    intro x R e c' T' hcc hT
    cases e
    cases hcc
    obtain ⟨t', T3, rfl, h4, h5⟩ := cons_sub hT
    by_cases hq : t.1 = nm
    · unfold sub at h4
      rw [if_pos hq] at h4
      obtain ⟨a, s, hs, hds⟩ := digit_first hd1 hd2
      refine ⟨.num t'.2 n, T3, by rw [hq]; exact .put _ _, h5, .num (c := a) (r := s) (by rw [h4]; exact hs) hds (by rw [h4]; exact hd3)⟩
    · unfold sub at h4
      rw [if_neg hq] at h4
      refine ⟨.name t'.2 t.1, T3, .name _ _ _ hq, h5, ?_⟩
      have := Par.name (num := num) (E := E') (d := d) (T := T3) (t := t') (c := c) (r := r) (by rw [h4]; exact h1) h2 (by rw [h4]; exact h3)
      rw [h4] at this
      exact this
  | nameLong => intro x R e; cases e
  | none => intro x R e; cases e
  | mark => intro x R e; cases e
  | @num d t T c r m h1 h2 h3 =>
    intro x R e c' T' hcc hT
    cases e
    cases hcc
    obtain ⟨t', T3, rfl, h4, h5⟩ := cons_sub hT
    have hnl : Lex.letter c.toNat = false := by
      unfold Lex.digit at h2
      have := of_decide_eq_true h2
      unfold Lex.letter
      simp
      omega
    rw [sub_stay nm n hc hl (by intro a s e; rw [h1] at e; cases e; exact hnl)] at h4
    exact ⟨.num t'.2 m, T3, .num _ _ _, h5, .num (c := c) (r := r) (by rw [h4]; exact h1) h2 (by rw [h4]; exact h3)⟩
  | numBad => intro x R e; cases e
theorem Sub.ev {N M : Names} (hn : N nm = some (n : Int)) (hM : ∀ s, s ≠ nm → M s = N s) {x y : X} (h : Sub nm n x y) : Ex.ev M y = Ex.ev N x := by
  induction h with
  | num => rfl
  | name a b s hs => exact hM s hs
  | put a b => show some ((n : Nat) : Int) = N nm; rw [hn]
  | bin a b op _ _ ih1 ih2 => unfold Ex.ev; rw [ih1, ih2]
end
end Ex
end Go.Proofs.YtnmbakibiaedhaaDoor
