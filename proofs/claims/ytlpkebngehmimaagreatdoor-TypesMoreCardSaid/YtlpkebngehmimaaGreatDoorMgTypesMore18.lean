/- Templates in plain words: one way alone; what is read is fine; what is written is read. -/
import Derived.Test.YtlpkebngehmimaaGreatDoorMgTypesMore17
section
/- Templates in plain words: what is read is fine; what is written is read. -/
namespace Go.Proofs.YtlpkebngehmimaaGreatDoor
set_option linter.unusedVariables false
set_option linter.unusedSimpArgs false
namespace Tm
open Ex
variable {E : Nat}
/-! ## what is left is the end of what there was -/
theorem ParT.suf {T R : List Tok} {x : X} (h : ParT E T x R) : R <:+ T ∧ R.length < T.length := by
  have := h.less x R rfl
  exact ⟨this.1, this.2 (by intro k y e; cases e)⟩
theorem suf_cons {t : Tok} {R T : List Tok} (h : R <:+ T) : R <:+ t :: T := h.trans (List.suffix_cons _ _)
theorem Cnt.suf {T R : List Tok} {c : Option X} (h : Cnt E T c R) : R <:+ T := by
  cases h with
  | no _ => exact List.suffix_refl _
  | yes _ h _ => exact suf_cons ((List.suffix_cons _ _).trans h.suf.1)
theorem RuleP.suf {T R : List Tok} {r : Rl} (h : RuleP T r R) : R <:+ T := by
  cases h with
  | size => exact suf_cons (List.suffix_cons _ _)
  | count => exact suf_cons (List.suffix_cons _ _)
  | check1 => exact suf_cons (List.suffix_cons _ _)
  | check2 => exact suf_cons (suf_cons (List.suffix_cons _ _))
theorem TailP.suf {k : Knd} {T R : List Tok} {c : Option X} {r : Rl} (h : TailP E k T c r R) : R <:+ T := by
  cases h with
  | cnt h _ => exact h.suf
  | rule _ h => exact suf_cons h.suf
theorem HdP.suf {T R : List Tok} {h : Hd} (hh : HdP E T h R) : R <:+ T ∧ R.length < T.length := by
  cases hh with
  | @mk t n s T R k c r h1 h2 h3 h4 =>
    have h5 := (List.suffix_cons s R).trans h3.suf
    have h6 := h5.length_le
    refine ⟨suf_cons (suf_cons h5), ?_⟩
    simp only [List.length_cons]; omega
theorem Blk.suf {d n : Nat} {T R : List Tok} {l : Its} (h : Blk E d n T l R) : R <:+ T ∧ R.length < T.length := by
  induction h with
  | fin _ => exact ⟨List.suffix_cons _ _, by simp⟩
  | item _ h1 _ ih =>
    have h2 := h1.suf
    exact ⟨ih.1.trans h2.1, by omega⟩
  | when _ _ h3 _ _ _ _ ih1 ih2 =>
    have h4 := h3.suf
    refine ⟨suf_cons (ih2.1.trans (ih1.1.trans ((List.suffix_cons _ _).trans h4.1))), ?_⟩
    simp only [List.length_cons] at *; omega
/-! ## one way alone -/
theorem Par.det {num : NumOf} {c : Cat} {d : Nat} {T : List Tok} {o : Out} (h : Par num E c d T o) : ∀ o', Par num E c d T o' → o = o' := by
  induction h with
  | top _ ih =>
    intro o' h'
    cases h' with
    | top h => exact ih _ h
    | lev hk => omega
    | levBad hk => omega
  | lev hk h1 h2 ih1 ih2 =>
    intro o' h'
    cases h' with
    | top h => omega
    | lev _ g1 g2 => cases ih1 _ g1; exact ih2 _ g2
    | levBad _ g1 => cases ih1 _ g1
  | levBad hk h1 ih1 =>
    intro o' h'
    cases h' with
    | top h => omega
    | lev _ g1 g2 => cases ih1 _ g1
    | levBad _ g1 => exact ih1 _ g1
  | done h =>
    intro o' h'
    cases h' with
    | done _ => rfl
    | more g => exact absurd g (h _ _ rfl)
    | moreBad g => exact absurd g (h _ _ rfl)
  | more h h1 h2 ih1 ih2 =>
    intro o' h'
    cases h' with
    | done g => exact absurd h (g _ _ rfl)
    | more _ g1 g2 => cases ih1 _ g1; exact ih2 _ g2
    | moreBad _ g1 => cases ih1 _ g1
  | moreBad h h1 ih1 =>
    intro o' h'
    cases h' with
    | done g => exact absurd h (g _ _ rfl)
    | more _ g1 g2 => cases ih1 _ g1
    | moreBad _ g1 => exact ih1 _ g1
  | paren h1 h2 h3 h4 ih =>
    intro o' h'
    cases h' with
    | paren _ _ g3 _ => cases ih _ g3; rfl
    | parenNone _ _ g3 g4 => cases ih _ g3; exact absurd h4 (g4 _ _ rfl)
    | parenBad _ _ g3 => cases ih _ g3
    | deep _ => omega
    | name g1 g2 _ => rw [h1] at g1; cases g1; exact absurd g2 (by decide)
    | nameLong g1 g2 _ => rw [h1] at g1; cases g1; exact absurd g2 (by decide)
    | mark _ _ _ g => exact absurd h1 g
    | num g1 g2 _ => rw [h1] at g1; cases g1; exact absurd g2 (by decide)
    | numBad g1 g2 _ => rw [h1] at g1; cases g1; exact absurd g2 (by decide)
  | parenNone h1 h2 h3 h4 ih =>
    intro o' h'
    cases h' with
    | paren _ _ g3 g4 => cases ih _ g3; exact absurd g4 (h4 _ _ rfl)
    | parenNone _ _ g3 g4 => cases ih _ g3; rfl
    | parenBad _ _ g3 => cases ih _ g3
    | deep _ => omega
    | name g1 g2 _ => rw [h1] at g1; cases g1; exact absurd g2 (by decide)
    | nameLong g1 g2 _ => rw [h1] at g1; cases g1; exact absurd g2 (by decide)
    | mark _ _ _ g => exact absurd h1 g
    | num g1 g2 _ => rw [h1] at g1; cases g1; exact absurd g2 (by decide)
    | numBad g1 g2 _ => rw [h1] at g1; cases g1; exact absurd g2 (by decide)
  | parenBad h1 h2 h3 ih =>
    intro o' h'
    cases h' with
    | paren _ _ g3 g4 => cases ih _ g3
    | parenNone _ _ g3 g4 => cases ih _ g3
    | parenBad _ _ g3 => cases ih _ g3; rfl
    | deep _ => omega
    | name g1 g2 _ => rw [h1] at g1; cases g1; exact absurd g2 (by decide)
    | nameLong g1 g2 _ => rw [h1] at g1; cases g1; exact absurd g2 (by decide)
    | mark _ _ _ g => exact absurd h1 g
    | num g1 g2 _ => rw [h1] at g1; cases g1; exact absurd g2 (by decide)
    | numBad g1 g2 _ => rw [h1] at g1; cases g1; exact absurd g2 (by decide)
  | deep h1 =>
    intro o' h'
    cases h' with
    | paren _ g => omega
    | parenNone _ g => omega
    | parenBad _ g => omega
    | deep _ => rfl
    | name g1 g2 _ => rw [h1] at g1; cases g1; exact absurd g2 (by decide)
    | nameLong g1 g2 _ => rfl
    | mark _ _ _ g => exact absurd h1 g
    | num g1 g2 _ => rw [h1] at g1; cases g1; exact absurd g2 (by decide)
    | numBad g1 g2 _ => rw [h1] at g1; cases g1; exact absurd g2 (by decide)
  | name h1 h2 h3 =>
    intro o' h'
    cases h' with
    | paren g => rw [h1] at g; cases g; exact absurd h2 (by decide)
    | parenNone g => rw [h1] at g; cases g; exact absurd h2 (by decide)
    | parenBad g => rw [h1] at g; cases g; exact absurd h2 (by decide)
    | deep g => rw [h1] at g; cases g; exact absurd h2 (by decide)
    | name _ _ _ => rfl
    | nameLong _ _ _ => omega
    | mark g1 g2 _ _ => rw [h1] at g1; cases g1; rw [h2] at g2; cases g2
    | num g1 g2 _ => rw [h1] at g1; cases g1; exact absurd (let_dig h2 g2) id
    | numBad g1 g2 _ => rw [h1] at g1; cases g1; exact absurd (let_dig h2 g2) id
  | nameLong h1 h2 h3 =>
    intro o' h'
    cases h' with
    | paren g => rw [h1] at g; cases g; exact absurd h2 (by decide)
    | parenNone g => rw [h1] at g; cases g; exact absurd h2 (by decide)
    | parenBad g => rw [h1] at g; cases g; exact absurd h2 (by decide)
    | deep g => rfl
    | name _ _ _ => omega
    | nameLong _ _ _ => rfl
    | mark g1 g2 _ _ => rw [h1] at g1; cases g1; rw [h2] at g2; cases g2
    | num g1 g2 _ => rw [h1] at g1; cases g1; exact absurd (let_dig h2 g2) id
    | numBad g1 g2 _ => rw [h1] at g1; cases g1; exact absurd (let_dig h2 g2) id
  | none => intro o' h'; cases h'; rfl
  | mark h1 h2 h3 h4 =>
    intro o' h'
    cases h' with
    | paren g => exact absurd g h4
    | parenNone g => exact absurd g h4
    | parenBad g => exact absurd g h4
    | deep g => exact absurd g h4
    | name g1 g2 _ => rw [h1] at g1; cases g1; rw [h2] at g2; cases g2
    | nameLong g1 g2 _ => rw [h1] at g1; cases g1; rw [h2] at g2; cases g2
    | mark _ _ _ _ => rfl
    | num g1 g2 _ => rw [h1] at g1; cases g1; rw [h3] at g2; cases g2
    | numBad g1 g2 _ => rw [h1] at g1; cases g1; rw [h3] at g2; cases g2
  | num h1 h2 h3 =>
    intro o' h'
    cases h' with
    | paren g => rw [h1] at g; cases g; exact absurd h2 (by decide)
    | parenNone g => rw [h1] at g; cases g; exact absurd h2 (by decide)
    | parenBad g => rw [h1] at g; cases g; exact absurd h2 (by decide)
    | deep g => rw [h1] at g; cases g; exact absurd h2 (by decide)
    | name g1 g2 _ => rw [h1] at g1; cases g1; exact absurd (let_dig g2 h2) id
    | nameLong g1 g2 _ => rw [h1] at g1; cases g1; exact absurd (let_dig g2 h2) id
    | mark g1 g2 g3 _ => rw [h1] at g1; cases g1; rw [h2] at g3; cases g3
    | num _ _ g3 => rw [h3] at g3; cases g3; rfl
    | numBad _ _ g3 => rw [h3] at g3; cases g3
  | numBad h1 h2 h3 =>
    intro o' h'
    cases h' with
    | paren g => rw [h1] at g; cases g; exact absurd h2 (by decide)
    | parenNone g => rw [h1] at g; cases g; exact absurd h2 (by decide)
    | parenBad g => rw [h1] at g; cases g; exact absurd h2 (by decide)
    | deep g => rw [h1] at g; cases g; exact absurd h2 (by decide)
    | name g1 g2 _ => rw [h1] at g1; cases g1; exact absurd (let_dig g2 h2) id
    | nameLong g1 g2 _ => rw [h1] at g1; cases g1; exact absurd (let_dig g2 h2) id
    | mark g1 g2 g3 _ => rw [h1] at g1; cases g1; rw [h2] at g3; cases g3
    | num _ _ g3 => rw [h3] at g3; cases g3
    | numBad _ _ g3 => rw [h3] at g3; cases g3; rfl
where
  let_dig {c : UInt8} (h : Lex.letter c.toNat = true) (g : Lex.digit c.toNat = true) : False := by
    unfold Lex.letter at h
    unfold Lex.digit at g
    simp only [Bool.or_eq_true, decide_eq_true_eq] at h g
    omega
theorem ParT.det {T R R' : List Tok} {x x' : X} (h : ParT E T x R) (h' : ParT E T x' R') : x = x' ∧ R = R' := by
  have := Par.det h _ h'
  cases this
  exact ⟨rfl, rfl⟩
end Tm
end Go.Proofs.YtlpkebngehmimaaGreatDoor
end
section
/- Templates in plain words: one way alone; what is read is fine; what is written is read. -/
namespace Go.Proofs.YtlpkebngehmimaaGreatDoor
set_option linter.unusedVariables false
set_option linter.unusedSimpArgs false
namespace Tm
open Ex
variable {E : Nat}
theorem Cnt.det {T R R' : List Tok} {c c' : Option X} (h : Cnt E T c R) (h' : Cnt E T c' R') : c = c' ∧ R = R' := by
  cases h with
  | no h1 => cases h' with
    | no _ => exact ⟨rfl, rfl⟩
    | yes g1 _ _ => exact absurd g1 h1
  | yes h1 h2 h3 => cases h' with
    | no g1 => exact absurd h1 g1
    | yes g1 g2 g3 =>
      obtain ⟨e1, e2⟩ := h2.det g2
      cases e2; subst e1
      exact ⟨rfl, rfl⟩
theorem size_count : wSize ≠ wCount ∧ wSize ≠ wCheck ∧ wCount ≠ wCheck := by decide
theorem RuleP.det {T R R' : List Tok} {r r' : Rl} (h : RuleP T r R) (h' : RuleP T r' R') : r = r' ∧ R = R' := by
  have hs := size_count
  cases h with
  | size h1 _ => cases h' with
    | size => exact ⟨rfl, rfl⟩
    | count g1 => rw [h1] at g1; exact absurd g1 hs.1
    | check1 g1 => rw [h1] at g1; exact absurd g1 hs.2.1
    | check2 g1 => rw [h1] at g1; exact absurd g1 hs.2.1
  | count h1 _ => cases h' with
    | size g1 => rw [h1] at g1; exact absurd g1.symm hs.1
    | count => exact ⟨rfl, rfl⟩
    | check1 g1 => rw [h1] at g1; exact absurd g1 hs.2.2
    | check2 g1 => rw [h1] at g1; exact absurd g1 hs.2.2
  | check1 h1 _ h3 => cases h' with
    | size g1 => rw [h1] at g1; exact absurd g1.symm hs.2.1
    | count g1 => rw [h1] at g1; exact absurd g1.symm hs.2.2
    | check1 => exact ⟨rfl, rfl⟩
    | check2 _ _ g3 => exact absurd h3 g3
  | check2 h1 _ h3 => cases h' with
    | size g1 => rw [h1] at g1; exact absurd g1.symm hs.2.1
    | count g1 => rw [h1] at g1; exact absurd g1.symm hs.2.2
    | check1 _ _ g3 => exact absurd g3 h3
    | check2 => exact ⟨rfl, rfl⟩
/-- of a tail and the mark behind it -/
theorem TailP.det {k : Knd} {T R R' : List Tok} {s s' : Tok} {c c' : Option X} {r r' : Rl} (h : TailP E k T c r (s :: R)) (hs : s.1 = [59]) (h' : TailP E k T c' r' (s' :: R')) (hs' : s'.1 = [59]) : c = c' ∧ r = r' ∧ s :: R = s' :: R' := by
  have key : ∀ {T R : List Tok} {t s : Tok} {c : Option X}, Cnt E (t :: T) c (s :: R) → t.1 = [61] → s.1 = [59] → False := by
    intro T R t s c h1 h2 h3
    cases h1 with
    | no _ => rw [h2] at h3; exact absurd h3 (by decide)
    | yes g1 _ _ => rw [h2] at g1; exact absurd g1 (by decide)
  cases h with
  | cnt h1 h2 => cases h' with
    | cnt g1 _ => obtain ⟨e1, e2⟩ := h1.det g1; exact ⟨e1, rfl, e2⟩
    | rule g1 g2 => exact (key h1 g1 hs).elim
  | rule h1 h2 => cases h' with
    | cnt g1 _ => exact (key g1 h1 hs').elim
    | rule g1 g2 => obtain ⟨e1, e2⟩ := h2.det g2; exact ⟨rfl, e1, e2⟩
theorem name_kept {w : Wd} (h : nameB w = true) : keptB w = false := by
  unfold nameB at h
  simp only [Bool.and_eq_true, Bool.not_eq_true'] at h
  exact h.1.2
theorem KndP.det {t : Tok} {k k' : Knd} (h : KndP t k) (h' : KndP t k') : k = k' := by
  have h0 : (kindOf wBytes).isSome = false := by decide
  cases h with
  | scalar h1 => cases h' with
    | scalar => rfl
    | bytes g => rw [g, h0] at h1; cases h1
    | struct g => have := name_kept g; unfold keptB at this; rw [h1, Bool.true_or] at this; cases this
  | bytes h1 => cases h' with
    | scalar g => rw [h1, h0] at g; cases g
    | bytes => rfl
    | struct g => have := name_kept g; rw [h1] at this; exact absurd this (by decide)
  | struct h1 => cases h' with
    | scalar g => have := name_kept h1; unfold keptB at this; rw [g, Bool.true_or] at this; cases this
    | bytes g => have := name_kept h1; rw [g] at this; exact absurd this (by decide)
    | struct => rfl
theorem HdP.det {T R R' : List Tok} {a b : Hd} (h : HdP E T a R) (h' : HdP E T b R') : a = b ∧ R = R' := by
  cases h with
  | mk h1 h2 h3 h4 => cases h' with
    | mk g1 g2 g3 g4 =>
      have := h1.det g1
      subst this
      obtain ⟨e1, e2, e3⟩ := h3.det h4 g3 g4
      cases e3
      subst e1 e2
      exact ⟨rfl, rfl⟩
/-- an item begins neither with a brace nor with 'when' -/
theorem KndP.no {t : Tok} {k : Knd} (h : KndP t k) : t.1 ≠ [125] ∧ t.1 ≠ wWhen := by
  cases h with
  | scalar h1 => constructor <;> (intro e; rw [e] at h1; exact absurd h1 (by decide))
  | bytes h1 => rw [h1]; decide
  | struct h1 => constructor <;> (intro e; rw [e] at h1; exact absurd h1 (by decide))
theorem HdP.no {T R : List Tok} {a : Hd} (h : HdP E T a R) : textOf T ≠ [125] ∧ textOf T ≠ wWhen := by
  cases h with
  | mk h1 => exact h1.no
theorem Blk.det {d n : Nat} {T R : List Tok} {l : Its} (h : Blk E d n T l R) : ∀ l' R', Blk E d n T l' R' → l = l' ∧ R = R' := by
  induction h with
  | fin h1 =>
    intro l' R' h'
    cases h' with
    | fin _ => exact ⟨rfl, rfl⟩
    | item _ g _ => exact absurd h1 g.no.1
    | when _ g => rw [h1] at g; exact absurd g (by decide)
  | item h1 h2 h3 ih =>
    intro l' R' h'
    cases h' with
    | fin g => exact absurd g h2.no.1
    | item _ g1 g2 =>
      obtain ⟨e1, e2⟩ := h2.det g1
      subst e1 e2
      obtain ⟨e3, e4⟩ := ih _ _ g2
      exact ⟨by rw [e3], e4⟩
    | when _ g => exact absurd g h2.no.2
  | when h1 h2 h3 h4 h5 _ _ ih1 ih2 =>
    intro l' R' h'
    cases h' with
    | fin g => rw [h2] at g; exact absurd g (by decide)
    | item _ g _ => exact absurd h2 g.no.2
    | when _ _ g3 _ _ g6 g7 =>
      obtain ⟨e1, e2⟩ := h3.det g3
      cases e2; subst e1
      obtain ⟨e3, e4⟩ := ih1 _ _ g6
      subst e3 e4
      obtain ⟨e5, e6⟩ := ih2 _ _ g7
      exact ⟨by rw [e5], e6⟩
theorem Tys.det {n : Nat} {T : List Tok} {l : List Ty} (h : Tys E n T l) : ∀ l', Tys E n T l' → l = l' := by
  induction h with
  | fin => intro l' h'; cases h'; rfl
  | one h1 h2 h3 h4 h5 _ ih =>
    intro l' h'
    cases h' with
    | one _ _ _ _ g5 g6 =>
      obtain ⟨e1, e2⟩ := h5.det _ _ g5
      subst e1 e2
      rw [ih _ g6]
/-! ## what is read is fine -/
def Wordy (T : List Tok) : Prop := ∀ t ∈ T, t.1 ≠ [] ∧ ∀ c r, t.1 = c :: r → Lex.word c = true → ∀ b ∈ t.1, Lex.word b = true
theorem Wordy.suf {T R : List Tok} (h : Wordy T) (hs : R <:+ T) : Wordy R := fun t ht => h t (hs.subset ht)
theorem Wordy.name {t : Tok} (h : t.1 ≠ [] ∧ ∀ c r, t.1 = c :: r → Lex.word c = true → ∀ b ∈ t.1, Lex.word b = true) (hn : nameB t.1 = true) : NameOk t.1 := by
  refine ⟨⟨h.1, ?_⟩, hn⟩
  unfold nameB at hn
  simp only [Bool.and_eq_true] at hn
  have h1 := hn.1.1
  cases ht : t.1 with
  | nil => exact absurd ht h.1
  | cons c r =>
    rw [ht] at h1
    have := h.2 c r ht (by unfold Lex.word; rw [show Lex.letter c.toNat = true from h1, Bool.true_or])
    rwa [ht] at this
theorem ParT.fine {T R : List Tok} {x : X} (h : ParT E T x R) (hw : Wordy T) : FineX x := by
  refine ⟨fine_read num_ok h x R rfl (fun t ht => (hw t ht).2) (by intro k y e; cases e), ?_⟩
  have := deep_read (dec := Num.dec) h (by omega) x R rfl (by intro k y e; cases e)
  simp only [] at this
  split at this
  · omega
  · omega
theorem Cnt.fine {T R : List Tok} {c : Option X} (h : Cnt E T c R) (hw : Wordy T) : ∀ x, c = some x → FineX x := by
  intro x e
  cases h with
  | no => cases e
  | yes _ h2 _ => cases e; exact h2.fine (hw.suf (List.suffix_cons _ _))
theorem RuleP.fine {T R : List Tok} {r : Rl} (h : RuleP T r R) (hw : Wordy T) : FineR r ∧ r ≠ .none := by
  cases h with
  | size _ h2 => exact ⟨Wordy.name (hw _ (by simp)) h2, by simp⟩
  | count _ h2 => exact ⟨Wordy.name (hw _ (by simp)) h2, by simp⟩
  | check1 _ h2 => exact ⟨⟨Wordy.name (hw _ (by simp)) h2, Wordy.name (hw _ (by simp)) h2⟩, by simp⟩
  | check2 _ h2 _ h4 => exact ⟨⟨Wordy.name (hw _ (by simp)) h2, Wordy.name (hw _ (by simp)) h4⟩, by simp⟩
theorem HdP.fine {T R : List Tok} {a : Hd} (h : HdP E T a R) (hw : Wordy T) : FineH a := by
  cases h with
  | @mk t n s T R k c r h1 h2 h3 h4 =>
    have hw2 : Wordy T := hw.suf (suf_cons (List.suffix_cons _ _))
    refine ⟨?_, Wordy.name (hw _ (by simp)) h2, ?_⟩
    · cases h1 with
      | scalar g => exact g
      | bytes => trivial
      | struct g => exact Wordy.name (hw _ (by simp)) g
    · cases h3 with
      | cnt g1 g2 => exact ⟨fun x e => ⟨g1.fine hw2 x e, rfl⟩, trivial, g2, fun e => absurd rfl e⟩
      | rule g1 g2 => exact ⟨fun x e => (by cases e), (g2.fine (hw2.suf (List.suffix_cons _ _))).1, fun e => (by cases e), fun _ => ⟨_, rfl⟩⟩
theorem Blk.fine {d n : Nat} {T R : List Tok} {l : Its} (h : Blk E d n T l R) : Wordy T → FineI l := by
  induction h with
  | fin _ => intro _; trivial
  | item _ h1 _ ih => intro hw; exact ⟨h1.fine hw, ih (hw.suf h1.suf.1)⟩
  | when _ _ h3 _ _ h6 _ ih1 ih2 =>
    intro hw
    have hw1 := hw.suf (List.suffix_cons _ _)
    have hw2 := hw1.suf ((List.suffix_cons _ _).trans h3.suf.1)
    exact ⟨h3.fine hw1, ih1 hw2, ih2 (hw2.suf h6.suf.1)⟩
theorem Tys.fine {n : Nat} {T : List Tok} {l : List Ty} (h : Tys E n T l) : Wordy T → ∀ t ∈ l, FineT t := by
  induction h with
  | fin => intro _ t ht; simp at ht
  | one h1 h2 h3 h4 h5 _ ih =>
    intro hw t ht
    have hw1 := hw.suf (suf_cons (suf_cons (List.suffix_cons _ _)))
    rcases List.mem_cons.1 ht with rfl | ht
    · exact ⟨Wordy.name (hw _ (by simp)) h3, h5.fine hw1⟩
    · exact ih (hw1.suf h5.suf.1) t ht
end Tm
end Go.Proofs.YtlpkebngehmimaaGreatDoor
end
