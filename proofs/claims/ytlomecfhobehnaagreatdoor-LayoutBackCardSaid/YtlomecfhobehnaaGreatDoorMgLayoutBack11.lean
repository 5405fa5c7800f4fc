/- Templates in plain words: what is written is read. -/
import Derived.Test.YtlomecfhobehnaaGreatDoorMgLayoutBack10
section
/- Templates in plain words: what is written is cut into its tokens. -/
namespace Go.Proofs.YtlomecfhobehnaaGreatDoor
set_option linter.unusedVariables false
set_option linter.unusedSimpArgs false
namespace Tm
open Ex
theorem map_cons_map (o : Option (List Wd)) (a b : List Wd) : (o.map (b ++ ·)).map (a ++ ·) = o.map ((a ++ b) ++ ·) := by
  rw [Option.map_map]; congr 1; funext z; simp
theorem map_one (o : Option (List Wd)) (x : Wd) : o.map (x :: ·) = o.map ([x] ++ ·) := rfl
theorem map_app (o : Option (List Wd)) (a b : List Wd) : (o.map (b ++ ·)).map (a ++ ·) = o.map ((a ++ b) ++ ·) := map_cons_map o a b
theorem map_nil (o : Option (List Wd)) : o.map (([] : List Wd) ++ ·) = o := by cases o <;> rfl
theorem sep_nw (c : UInt8) (t : Wd) (h : Lex.word c = false) : SepM (c :: t) := .inr ⟨c, t, rfl, h⟩
theorem kept_ok {w : Wd} (h : w ∈ keptWords) : WordOk w := (kept_words w h).1
/-- a word behind '= ' and a name, and what follows -/
theorem texts_rule1 {w f r : Wd} {i : Nat} (hw : w ∈ keptWords) (hf : NameOk f) (hr : SepM r) : texts ([32, 61, 32] ++ w ++ 32 :: f ++ r) i = (texts r 0).map ([[61], w, f] ++ ·) := by
  have e : [32, 61, 32] ++ w ++ 32 :: f ++ r = 32 :: 61 :: 32 :: (w ++ 32 :: (f ++ r)) := by simp
  rw [e, texts_blank, texts_eq, texts_wd (kept_ok hw) (sep_nw 32 _ (by decide)), texts_blank, texts_wd hf.1 hr, Option.map_map, Option.map_map]
  rfl
theorem texts_tail {h : Hd} (hh : FineH h) (r : Wd) (i : Nat) (hr : ∃ t, r = 59 :: t) : texts (prTail h.cnt h.rule ++ r) i = (texts r 0).map (ptTail h.cnt h.rule ++ ·) := by
  obtain ⟨t, rfl⟩ := hr
  have hs : SepM (59 :: t) := sep_nw 59 t (by decide)
  obtain ⟨at_, k, name, cnt, rule⟩ := h
  obtain ⟨h1, h2, h3, h4, h5⟩ := hh
  simp only [] at *
  cases cnt with
  | some c =>
    have hc := (h3 c rfl).1.1
    show texts (91 :: (prX c ++ [93]) ++ 59 :: t) i = _
    rw [List.cons_append, texts_ob, List.append_assoc, List.singleton_append, texts_prM c hc _ _ (sep_nw 93 _ (by decide)), texts_cb, Option.map_map, Option.map_map]
    congr 1
    funext z
    show _ = ([91] :: (ptX c ++ [[93]])) ++ z
    simp
  | none =>
    cases rule with
    | none => show texts (59 :: t) i = (texts (59 :: t) 0).map (([] : List Wd) ++ ·); rw [map_nil]; exact texts_shift _ _ _
    | size f => exact texts_rule1 (by decide) h4 hs
    | count f => exact texts_rule1 (by decide) h4 hs
    | check f l =>
      unfold prTail ptTail
      simp only []
      by_cases e : l = f
      · rw [if_pos e, if_pos e]; exact texts_rule1 (by decide) h4.1 hs
      · rw [if_neg e, if_neg e]
        have := texts_rule1 (w := wCheck) (f := f) (r := 32 :: (l ++ 59 :: t)) (i := i) (by decide) h4.1 (sep_nw 32 _ (by decide))
        have e2 : [32, 61, 32] ++ wCheck ++ 32 :: (f ++ 32 :: l) ++ 59 :: t = [32, 61, 32] ++ wCheck ++ 32 :: f ++ 32 :: (l ++ 59 :: t) := by simp
        rw [e2, this, texts_blank, texts_wd h4.2.1 hs, Option.map_map]
        rfl
theorem texts_prH {h : Hd} (hh : FineH h) (d : Nat) (r : Wd) (i : Nat) : texts (prH d h ++ r) i = (texts r 0).map (ptH h ++ ·) := by
  have e : prH d h ++ r = List.replicate (2 * d) 32 ++ (kndW h.k ++ 32 :: (h.name ++ (prTail h.cnt h.rule ++ 59 :: 10 :: r))) := by unfold prH pad; simp
  rw [e, texts_pad, texts_wd (kndW_ok hh.1) (sep_nw 32 _ (by decide)), texts_blank, texts_wd hh.2.1.1, texts_tail hh _ _ ⟨_, rfl⟩, texts_semi, texts_nl, Option.map_map, Option.map_map, Option.map_map]
  · congr 1
    funext z
    unfold ptH
    simp
  · obtain ⟨at_, k, name, cnt, rule⟩ := h
    simp only []
    cases cnt with
    | some c => exact sep_nw 91 _ (by decide)
    | none =>
      cases rule with
      | none => exact sep_nw 59 _ (by decide)
      | size f => exact sep_nw 32 _ (by decide)
      | count f => exact sep_nw 32 _ (by decide)
      | check f l =>
        unfold prTail
        simp only []
        split <;> exact sep_nw 32 _ (by decide)
theorem texts_prI : ∀ (l : Its), FineI l → ∀ (d : Nat) (r : Wd) (i : Nat), texts (prI d l ++ r) i = (texts r 0).map (ptI l ++ ·)
  | .nil, h, d, r, i => by
    show texts r i = (texts r 0).map (([] : List Wd) ++ ·)
    rw [map_nil]; exact texts_shift _ _ _
  | .cons h l, hf, d, r, i => by
    show texts (prH d h ++ prI d l ++ r) i = _
    rw [List.append_assoc, texts_prH hf.1, texts_prI l hf.2, map_app]
    rfl
  | .when a c b l, hf, d, r, i => by
    have e : prI d (.when a c b l) ++ r = List.replicate (2 * d) 32 ++ (wWhen ++ 32 :: (prX c ++ 32 :: 123 :: 10 :: (prI (d + 1) b ++ (List.replicate (2 * d) 32 ++ 125 :: 10 :: (prI d l ++ r))))) := by
      rw [prI]; unfold pad; simp
    rw [e, texts_pad, texts_wd (kept_ok (by decide)) (sep_nw 32 _ (by decide)), texts_blank, texts_prM c hf.1.1 _ _ (sep_nw 32 _ (by decide)), texts_blank, texts_oc, texts_nl, texts_prI b hf.2.1, texts_pad, texts_cc, texts_nl, texts_prI l hf.2.2]
    simp only [Option.map_map]
    congr 1
    funext z
    rw [show ptI (.when a c b l) = wWhen :: (ptX c ++ [123] :: (ptI b ++ [125] :: ptI l)) from rfl]
    simp
theorem texts_prT {t : Ty} (ht : FineT t) (r : Wd) (i : Nat) : texts (prT t ++ r) i = (texts r 0).map (ptT t ++ ·) := by
  have e : prT t ++ r = wStruct ++ 32 :: (t.name ++ 32 :: 123 :: 10 :: (prI 1 t.items ++ 125 :: 10 :: r)) := by unfold prT; simp
  rw [e, texts_wd (kept_ok (by decide)) (sep_nw 32 _ (by decide)), texts_blank, texts_wd ht.1.1 (sep_nw 32 _ (by decide)), texts_blank, texts_oc, texts_nl, texts_prI t.items ht.2, texts_cc, texts_nl]
  simp only [Option.map_map]
  congr 1
  funext z
  unfold ptT
  simp
theorem texts_prTs : ∀ (l : List Ty), (∀ t ∈ l, FineT t) → texts (prTs l) 0 = some (ptTs l)
  | [], h => rfl
  | t :: l, h => by
    show texts (prT t ++ prTs l) 0 = _
    rw [texts_prT (h t (by simp)), texts_prTs l fun u hu => h u (by simp [hu])]
    rfl
/-! ## the same again -/
theorem Same.refl : ∀ x : X, Same x x
  | .num a n => .num a a n
  | .name a s => .name a a s
  | .bin a op l r => .bin a a op (Same.refl l) (Same.refl r)
theorem same_prX {x y : X} (h : Same x y) : prX x = prX y ∧ ptX x = ptX y := by
  refine ⟨h.pr.2, ?_⟩
  induction h with
  | num => rfl
  | name => rfl
  | bin a b op h1 h2 ih1 ih2 =>
    unfold ptX at *
    unfold pt
    rw [ih1, ih2, (h1.pr (dec := Num.dec)).1, (h2.pr (dec := Num.dec)).1]
theorem same_tail {c c' : Option X} (h : SameO c c') (r : Rl) : prTail c r = prTail c' r := by
  cases c with
  | none => cases c' with
    | none => rfl
    | some b => exact h.elim
  | some a => cases c' with
    | none => exact h.elim
    | some b => unfold prTail; simp only []; rw [(same_prX h).1]
theorem same_prH {h h' : Hd} (hs : SameH h h') (d : Nat) : prH d h = prH d h' := by
  unfold prH
  rw [hs.1, hs.2.1, same_tail hs.2.2.1, hs.2.2.2]
theorem same_prI {l l' : Its} (h : SameI l l') : ∀ d, prI d l = prI d l' := by
  induction h with
  | nil => intro d; rfl
  | cons hh _ ih => intro d; show prH d _ ++ _ = prH d _ ++ _; rw [same_prH hh, ih]
  | when hc _ _ ih1 ih2 => intro d; rw [prI, prI, (same_prX hc).1, ih1, ih2]
theorem same_prTs {l l' : List Ty} (h : SameTs l l') : prTs l = prTs l' := by
  induction h with
  | nil => rfl
  | cons ht _ ih =>
    show prT _ ++ prTs _ = prT _ ++ prTs _
    rw [ih]
    unfold prT
    rw [ht.1, same_prI ht.2]
end Tm
end Go.Proofs.YtlomecfhobehnaaGreatDoor
end
section
/- Templates in plain words: what is read is fine; what is written is read. -/
namespace Go.Proofs.YtlomecfhobehnaaGreatDoor
set_option linter.unusedVariables false
set_option linter.unusedSimpArgs false
namespace Tm
open Ex
variable {E : Nat}
/-! ## what is left is the end of what there was -/
theorem ParT.suf {T R : List Tok} {x : X} (h : ParT E T x R) : R <:+ T ∧ R.length < T.length := by
  have := h.less x R rfl
  exact ⟨this.1, this.2 (by intro k y e; cases e)⟩
theorem suf_cons {t : Tok} {R T : List Tok} (h : R <:+ T) : R <:+ t :: T := h.trans (List.suffix_cons _ _)
theorem Cnt.suf {T R : List Tok} {c : Option X} (h : Cnt E T c R) : R <:+ T := by
  cases h with
  | no _ => exact List.suffix_refl _
  | yes _ h _ => exact suf_cons ((List.suffix_cons _ _).trans h.suf.1)
theorem RuleP.suf {T R : List Tok} {r : Rl} (h : RuleP T r R) : R <:+ T := by
  cases h with
  | size => exact suf_cons (List.suffix_cons _ _)
  | count => exact suf_cons (List.suffix_cons _ _)
  | check1 => exact suf_cons (List.suffix_cons _ _)
  | check2 => exact suf_cons (suf_cons (List.suffix_cons _ _))
theorem TailP.suf {k : Knd} {T R : List Tok} {c : Option X} {r : Rl} (h : TailP E k T c r R) : R <:+ T := by
  cases h with
  | cnt h _ => exact h.suf
  | rule _ h => exact suf_cons h.suf
theorem HdP.suf {T R : List Tok} {h : Hd} (hh : HdP E T h R) : R <:+ T ∧ R.length < T.length := by
  cases hh with
  | @mk t n s T R k c r h1 h2 h3 h4 =>
    have h5 := (List.suffix_cons s R).trans h3.suf
    have h6 := h5.length_le
    refine ⟨suf_cons (suf_cons h5), ?_⟩
    simp only [List.length_cons]; omega
theorem Blk.suf {d n : Nat} {T R : List Tok} {l : Its} (h : Blk E d n T l R) : R <:+ T ∧ R.length < T.length := by
  induction h with
  | fin _ => exact ⟨List.suffix_cons _ _, by simp⟩
  | item _ h1 _ ih =>
    have h2 := h1.suf
    exact ⟨ih.1.trans h2.1, by omega⟩
  | when _ _ h3 _ _ _ _ ih1 ih2 =>
    have h4 := h3.suf
    refine ⟨suf_cons (ih2.1.trans (ih1.1.trans ((List.suffix_cons _ _).trans h4.1))), ?_⟩
    simp only [List.length_cons] at *; omega
/-! ## one way alone -/
theorem Par.det {num : NumOf} {c : Cat} {d : Nat} {T : List Tok} {o : Out} (h : Par num E c d T o) : ∀ o', Par num E c d T o' → o = o' := by
  induction h with
  | top _ ih =>
    intro o' h'
    cases h' with
    | top h => exact ih _ h
    | lev hk => omega
    | levBad hk => omega
  | lev hk h1 h2 ih1 ih2 =>
    intro o' h'
    cases h' with
    | top h => omega
    | lev _ g1 g2 => cases ih1 _ g1; exact ih2 _ g2
    | levBad _ g1 => cases ih1 _ g1
  | levBad hk h1 ih1 =>
    intro o' h'
    cases h' with
    | top h => omega
    | lev _ g1 g2 => cases ih1 _ g1
    | levBad _ g1 => exact ih1 _ g1
  | done h =>
    intro o' h'
    cases h' with
    | done _ => rfl
    | more g => exact absurd g (h _ _ rfl)
    | moreBad g => exact absurd g (h _ _ rfl)
  | more h h1 h2 ih1 ih2 =>
    intro o' h'
    cases h' with
    | done g => exact absurd h (g _ _ rfl)
    | more _ g1 g2 => cases ih1 _ g1; exact ih2 _ g2
    | moreBad _ g1 => cases ih1 _ g1
  | moreBad h h1 ih1 =>
    intro o' h'
    cases h' with
    | done g => exact absurd h (g _ _ rfl)
    | more _ g1 g2 => cases ih1 _ g1
    | moreBad _ g1 => exact ih1 _ g1
  | paren h1 h2 h3 h4 ih =>
    intro o' h'
    cases h' with
    | paren _ _ g3 _ => cases ih _ g3; rfl
    | parenNone _ _ g3 g4 => cases ih _ g3; exact absurd h4 (g4 _ _ rfl)
    | parenBad _ _ g3 => cases ih _ g3
    | deep _ => omega
    | name g1 g2 _ => rw [h1] at g1; cases g1; exact absurd g2 (by decide)
    | nameLong g1 g2 _ => rw [h1] at g1; cases g1; exact absurd g2 (by decide)
    | mark _ _ _ g => exact absurd h1 g
    | num g1 g2 _ => rw [h1] at g1; cases g1; exact absurd g2 (by decide)
    | numBad g1 g2 _ => rw [h1] at g1; cases g1; exact absurd g2 (by decide)
  | parenNone h1 h2 h3 h4 ih =>
    intro o' h'
    cases h' with
    | paren _ _ g3 g4 => cases ih _ g3; exact absurd g4 (h4 _ _ rfl)
    | parenNone _ _ g3 g4 => cases ih _ g3; rfl
    | parenBad _ _ g3 => cases ih _ g3
    | deep _ => omega
    | name g1 g2 _ => rw [h1] at g1; cases g1; exact absurd g2 (by decide)
    | nameLong g1 g2 _ => rw [h1] at g1; cases g1; exact absurd g2 (by decide)
    | mark _ _ _ g => exact absurd h1 g
    | num g1 g2 _ => rw [h1] at g1; cases g1; exact absurd g2 (by decide)
    | numBad g1 g2 _ => rw [h1] at g1; cases g1; exact absurd g2 (by decide)
  | parenBad h1 h2 h3 ih =>
    intro o' h'
    cases h' with
    | paren _ _ g3 g4 => cases ih _ g3
    | parenNone _ _ g3 g4 => cases ih _ g3
    | parenBad _ _ g3 => cases ih _ g3; rfl
    | deep _ => omega
    | name g1 g2 _ => rw [h1] at g1; cases g1; exact absurd g2 (by decide)
    | nameLong g1 g2 _ => rw [h1] at g1; cases g1; exact absurd g2 (by decide)
    | mark _ _ _ g => exact absurd h1 g
    | num g1 g2 _ => rw [h1] at g1; cases g1; exact absurd g2 (by decide)
    | numBad g1 g2 _ => rw [h1] at g1; cases g1; exact absurd g2 (by decide)
  | deep h1 =>
    intro o' h'
    cases h' with
    | paren _ g => omega
    | parenNone _ g => omega
    | parenBad _ g => omega
    | deep _ => rfl
    | name g1 g2 _ => rw [h1] at g1; cases g1; exact absurd g2 (by decide)
    | nameLong g1 g2 _ => rfl
    | mark _ _ _ g => exact absurd h1 g
    | num g1 g2 _ => rw [h1] at g1; cases g1; exact absurd g2 (by decide)
    | numBad g1 g2 _ => rw [h1] at g1; cases g1; exact absurd g2 (by decide)
  | name h1 h2 h3 =>
    intro o' h'
    cases h' with
    | paren g => rw [h1] at g; cases g; exact absurd h2 (by decide)
    | parenNone g => rw [h1] at g; cases g; exact absurd h2 (by decide)
    | parenBad g => rw [h1] at g; cases g; exact absurd h2 (by decide)
    | deep g => rw [h1] at g; cases g; exact absurd h2 (by decide)
    | name _ _ _ => rfl
    | nameLong _ _ _ => omega
    | mark g1 g2 _ _ => rw [h1] at g1; cases g1; rw [h2] at g2; cases g2
    | num g1 g2 _ => rw [h1] at g1; cases g1; exact absurd (let_dig h2 g2) id
    | numBad g1 g2 _ => rw [h1] at g1; cases g1; exact absurd (let_dig h2 g2) id
  | nameLong h1 h2 h3 =>
    intro o' h'
    cases h' with
    | paren g => rw [h1] at g; cases g; exact absurd h2 (by decide)
    | parenNone g => rw [h1] at g; cases g; exact absurd h2 (by decide)
    | parenBad g => rw [h1] at g; cases g; exact absurd h2 (by decide)
    | deep g => rfl
    | name _ _ _ => omega
    | nameLong _ _ _ => rfl
    | mark g1 g2 _ _ => rw [h1] at g1; cases g1; rw [h2] at g2; cases g2
    | num g1 g2 _ => rw [h1] at g1; cases g1; exact absurd (let_dig h2 g2) id
    | numBad g1 g2 _ => rw [h1] at g1; cases g1; exact absurd (let_dig h2 g2) id
  | none => intro o' h'; cases h'; rfl
  | mark h1 h2 h3 h4 =>
    intro o' h'
    cases h' with
    | paren g => exact absurd g h4
    | parenNone g => exact absurd g h4
    | parenBad g => exact absurd g h4
    | deep g => exact absurd g h4
    | name g1 g2 _ => rw [h1] at g1; cases g1; rw [h2] at g2; cases g2
    | nameLong g1 g2 _ => rw [h1] at g1; cases g1; rw [h2] at g2; cases g2
    | mark _ _ _ _ => rfl
    | num g1 g2 _ => rw [h1] at g1; cases g1; rw [h3] at g2; cases g2
    | numBad g1 g2 _ => rw [h1] at g1; cases g1; rw [h3] at g2; cases g2
  | num h1 h2 h3 =>
    intro o' h'
    cases h' with
    | paren g => rw [h1] at g; cases g; exact absurd h2 (by decide)
    | parenNone g => rw [h1] at g; cases g; exact absurd h2 (by decide)
    | parenBad g => rw [h1] at g; cases g; exact absurd h2 (by decide)
    | deep g => rw [h1] at g; cases g; exact absurd h2 (by decide)
    | name g1 g2 _ => rw [h1] at g1; cases g1; exact absurd (let_dig g2 h2) id
    | nameLong g1 g2 _ => rw [h1] at g1; cases g1; exact absurd (let_dig g2 h2) id
    | mark g1 g2 g3 _ => rw [h1] at g1; cases g1; rw [h2] at g3; cases g3
    | num _ _ g3 => rw [h3] at g3; cases g3; rfl
    | numBad _ _ g3 => rw [h3] at g3; cases g3
  | numBad h1 h2 h3 =>
    intro o' h'
    cases h' with
    | paren g => rw [h1] at g; cases g; exact absurd h2 (by decide)
    | parenNone g => rw [h1] at g; cases g; exact absurd h2 (by decide)
    | parenBad g => rw [h1] at g; cases g; exact absurd h2 (by decide)
    | deep g => rw [h1] at g; cases g; exact absurd h2 (by decide)
    | name g1 g2 _ => rw [h1] at g1; cases g1; exact absurd (let_dig g2 h2) id
    | nameLong g1 g2 _ => rw [h1] at g1; cases g1; exact absurd (let_dig g2 h2) id
    | mark g1 g2 g3 _ => rw [h1] at g1; cases g1; rw [h2] at g3; cases g3
    | num _ _ g3 => rw [h3] at g3; cases g3
    | numBad _ _ g3 => rw [h3] at g3; cases g3; rfl
where
  let_dig {c : UInt8} (h : Lex.letter c.toNat = true) (g : Lex.digit c.toNat = true) : False := by
    unfold Lex.letter at h
    unfold Lex.digit at g
    simp only [Bool.or_eq_true, decide_eq_true_eq] at h g
    omega
theorem ParT.det {T R R' : List Tok} {x x' : X} (h : ParT E T x R) (h' : ParT E T x' R') : x = x' ∧ R = R' := by
  have := Par.det h _ h'
  cases this
  exact ⟨rfl, rfl⟩
end Tm
end Go.Proofs.YtlomecfhobehnaaGreatDoor
end
section
/- Templates in plain words: one way alone; what is read is fine; what is written is read. -/
namespace Go.Proofs.YtlomecfhobehnaaGreatDoor
set_option linter.unusedVariables false
set_option linter.unusedSimpArgs false
namespace Tm
open Ex
variable {E : Nat}
theorem Cnt.det {T R R' : List Tok} {c c' : Option X} (h : Cnt E T c R) (h' : Cnt E T c' R') : c = c' ∧ R = R' := by
  cases h with
  | no h1 => cases h' with
    | no _ => exact ⟨rfl, rfl⟩
    | yes g1 _ _ => exact absurd g1 h1
  | yes h1 h2 h3 => cases h' with
    | no g1 => exact absurd h1 g1
    | yes g1 g2 g3 =>
      obtain ⟨e1, e2⟩ := h2.det g2
      cases e2; subst e1
      exact ⟨rfl, rfl⟩
theorem size_count : wSize ≠ wCount ∧ wSize ≠ wCheck ∧ wCount ≠ wCheck := by decide
theorem RuleP.det {T R R' : List Tok} {r r' : Rl} (h : RuleP T r R) (h' : RuleP T r' R') : r = r' ∧ R = R' := by
  have hs := size_count
  cases h with
  | size h1 _ => cases h' with
    | size => exact ⟨rfl, rfl⟩
    | count g1 => rw [h1] at g1; exact absurd g1 hs.1
    | check1 g1 => rw [h1] at g1; exact absurd g1 hs.2.1
    | check2 g1 => rw [h1] at g1; exact absurd g1 hs.2.1
  | count h1 _ => cases h' with
    | size g1 => rw [h1] at g1; exact absurd g1.symm hs.1
    | count => exact ⟨rfl, rfl⟩
    | check1 g1 => rw [h1] at g1; exact absurd g1 hs.2.2
    | check2 g1 => rw [h1] at g1; exact absurd g1 hs.2.2
  | check1 h1 _ h3 => cases h' with
    | size g1 => rw [h1] at g1; exact absurd g1.symm hs.2.1
    | count g1 => rw [h1] at g1; exact absurd g1.symm hs.2.2
    | check1 => exact ⟨rfl, rfl⟩
    | check2 _ _ g3 => exact absurd h3 g3
  | check2 h1 _ h3 => cases h' with
    | size g1 => rw [h1] at g1; exact absurd g1.symm hs.2.1
    | count g1 => rw [h1] at g1; exact absurd g1.symm hs.2.2
    | check1 _ _ g3 => exact absurd g3 h3
    | check2 => exact ⟨rfl, rfl⟩
/-- of a tail and the mark behind it -/
theorem TailP.det {k : Knd} {T R R' : List Tok} {s s' : Tok} {c c' : Option X} {r r' : Rl} (h : TailP E k T c r (s :: R)) (hs : s.1 = [59]) (h' : TailP E k T c' r' (s' :: R')) (hs' : s'.1 = [59]) : c = c' ∧ r = r' ∧ s :: R = s' :: R' := by
  have key : ∀ {T R : List Tok} {t s : Tok} {c : Option X}, Cnt E (t :: T) c (s :: R) → t.1 = [61] → s.1 = [59] → False := by
    intro T R t s c h1 h2 h3
    cases h1 with
    | no _ => rw [h2] at h3; exact absurd h3 (by decide)
    | yes g1 _ _ => rw [h2] at g1; exact absurd g1 (by decide)
  cases h with
  | cnt h1 h2 => cases h' with
    | cnt g1 _ => obtain ⟨e1, e2⟩ := h1.det g1; exact ⟨e1, rfl, e2⟩
    | rule g1 g2 => exact (key h1 g1 hs).elim
  | rule h1 h2 => cases h' with
    | cnt g1 _ => exact (key g1 h1 hs').elim
    | rule g1 g2 => obtain ⟨e1, e2⟩ := h2.det g2; exact ⟨rfl, e1, e2⟩
theorem name_kept {w : Wd} (h : nameB w = true) : keptB w = false := by
  unfold nameB at h
  simp only [Bool.and_eq_true, Bool.not_eq_true'] at h
  exact h.1.2
theorem KndP.det {t : Tok} {k k' : Knd} (h : KndP t k) (h' : KndP t k') : k = k' := by
  have h0 : (kindOf wBytes).isSome = false := by decide
  cases h with
  | scalar h1 => cases h' with
    | scalar => rfl
    | bytes g => rw [g, h0] at h1; cases h1
    | struct g => have := name_kept g; unfold keptB at this; rw [h1, Bool.true_or] at this; cases this
  | bytes h1 => cases h' with
    | scalar g => rw [h1, h0] at g; cases g
    | bytes => rfl
    | struct g => have := name_kept g; rw [h1] at this; exact absurd this (by decide)
  | struct h1 => cases h' with
    | scalar g => have := name_kept h1; unfold keptB at this; rw [g, Bool.true_or] at this; cases this
    | bytes g => have := name_kept h1; rw [g] at this; exact absurd this (by decide)
    | struct => rfl
theorem HdP.det {T R R' : List Tok} {a b : Hd} (h : HdP E T a R) (h' : HdP E T b R') : a = b ∧ R = R' := by
  cases h with
  | mk h1 h2 h3 h4 => cases h' with
    | mk g1 g2 g3 g4 =>
      have := h1.det g1
      subst this
      obtain ⟨e1, e2, e3⟩ := h3.det h4 g3 g4
      cases e3
      subst e1 e2
      exact ⟨rfl, rfl⟩
/-- an item begins neither with a brace nor with 'when' -/
theorem KndP.no {t : Tok} {k : Knd} (h : KndP t k) : t.1 ≠ [125] ∧ t.1 ≠ wWhen := by
  cases h with
  | scalar h1 => constructor <;> (intro e; rw [e] at h1; exact absurd h1 (by decide))
  | bytes h1 => rw [h1]; decide
  | struct h1 => constructor <;> (intro e; rw [e] at h1; exact absurd h1 (by decide))
theorem HdP.no {T R : List Tok} {a : Hd} (h : HdP E T a R) : textOf T ≠ [125] ∧ textOf T ≠ wWhen := by
  cases h with
  | mk h1 => exact h1.no
theorem Blk.det {d n : Nat} {T R : List Tok} {l : Its} (h : Blk E d n T l R) : ∀ l' R', Blk E d n T l' R' → l = l' ∧ R = R' := by
  induction h with
  | fin h1 =>
    intro l' R' h'
    cases h' with
    | fin _ => exact ⟨rfl, rfl⟩
    | item _ g _ => exact absurd h1 g.no.1
    | when _ g => rw [h1] at g; exact absurd g (by decide)
  | item h1 h2 h3 ih =>
    intro l' R' h'
    cases h' with
    | fin g => exact absurd g h2.no.1
    | item _ g1 g2 =>
      obtain ⟨e1, e2⟩ := h2.det g1
      subst e1 e2
      obtain ⟨e3, e4⟩ := ih _ _ g2
      exact ⟨by rw [e3], e4⟩
    | when _ g => exact absurd g h2.no.2
  | when h1 h2 h3 h4 h5 _ _ ih1 ih2 =>
    intro l' R' h'
    cases h' with
    | fin g => rw [h2] at g; exact absurd g (by decide)
    | item _ g _ => exact absurd h2 g.no.2
    | when _ _ g3 _ _ g6 g7 =>
      obtain ⟨e1, e2⟩ := h3.det g3
      cases e2; subst e1
      obtain ⟨e3, e4⟩ := ih1 _ _ g6
      subst e3 e4
      obtain ⟨e5, e6⟩ := ih2 _ _ g7
      exact ⟨by rw [e5], e6⟩
theorem Tys.det {n : Nat} {T : List Tok} {l : List Ty} (h : Tys E n T l) : ∀ l', Tys E n T l' → l = l' := by
  induction h with
  | fin => intro l' h'; cases h'; rfl
  | one h1 h2 h3 h4 h5 _ ih =>
    intro l' h'
    cases h' with
    | one _ _ _ _ g5 g6 =>
      obtain ⟨e1, e2⟩ := h5.det _ _ g5
      subst e1 e2
      rw [ih _ g6]
/-! ## what is read is fine -/
def Wordy (T : List Tok) : Prop := ∀ t ∈ T, t.1 ≠ [] ∧ ∀ c r, t.1 = c :: r → Lex.word c = true → ∀ b ∈ t.1, Lex.word b = true
theorem Wordy.suf {T R : List Tok} (h : Wordy T) (hs : R <:+ T) : Wordy R := fun t ht => h t (hs.subset ht)
theorem Wordy.name {t : Tok} (h : t.1 ≠ [] ∧ ∀ c r, t.1 = c :: r → Lex.word c = true → ∀ b ∈ t.1, Lex.word b = true) (hn : nameB t.1 = true) : NameOk t.1 := by
  refine ⟨⟨h.1, ?_⟩, hn⟩
  unfold nameB at hn
  simp only [Bool.and_eq_true] at hn
  have h1 := hn.1.1
  cases ht : t.1 with
  | nil => exact absurd ht h.1
  | cons c r =>
    rw [ht] at h1
    have := h.2 c r ht (by unfold Lex.word; rw [show Lex.letter c.toNat = true from h1, Bool.true_or])
    rwa [ht] at this
theorem ParT.fine {T R : List Tok} {x : X} (h : ParT E T x R) (hw : Wordy T) : FineX x := by
  refine ⟨fine_read num_ok h x R rfl (fun t ht => (hw t ht).2) (by intro k y e; cases e), ?_⟩
  have := deep_read (dec := Num.dec) h (by omega) x R rfl (by intro k y e; cases e)
  simp only [] at this
  split at this
  · omega
  · omega
theorem Cnt.fine {T R : List Tok} {c : Option X} (h : Cnt E T c R) (hw : Wordy T) : ∀ x, c = some x → FineX x := by
  intro x e
  cases h with
  | no => cases e
  | yes _ h2 _ => cases e; exact h2.fine (hw.suf (List.suffix_cons _ _))
theorem RuleP.fine {T R : List Tok} {r : Rl} (h : RuleP T r R) (hw : Wordy T) : FineR r ∧ r ≠ .none := by
  cases h with
  | size _ h2 => exact ⟨Wordy.name (hw _ (by simp)) h2, by simp⟩
  | count _ h2 => exact ⟨Wordy.name (hw _ (by simp)) h2, by simp⟩
  | check1 _ h2 => exact ⟨⟨Wordy.name (hw _ (by simp)) h2, Wordy.name (hw _ (by simp)) h2⟩, by simp⟩
  | check2 _ h2 _ h4 => exact ⟨⟨Wordy.name (hw _ (by simp)) h2, Wordy.name (hw _ (by simp)) h4⟩, by simp⟩
theorem HdP.fine {T R : List Tok} {a : Hd} (h : HdP E T a R) (hw : Wordy T) : FineH a := by
  cases h with
  | @mk t n s T R k c r h1 h2 h3 h4 =>
    have hw2 : Wordy T := hw.suf (suf_cons (List.suffix_cons _ _))
    refine ⟨?_, Wordy.name (hw _ (by simp)) h2, ?_⟩
    · cases h1 with
      | scalar g => exact g
      | bytes => trivial
      | struct g => exact Wordy.name (hw _ (by simp)) g
    · cases h3 with
      | cnt g1 g2 => exact ⟨fun x e => ⟨g1.fine hw2 x e, rfl⟩, trivial, g2, fun e => absurd rfl e⟩
      | rule g1 g2 => exact ⟨fun x e => (by cases e), (g2.fine (hw2.suf (List.suffix_cons _ _))).1, fun e => (by cases e), fun _ => ⟨_, rfl⟩⟩
theorem Blk.fine {d n : Nat} {T R : List Tok} {l : Its} (h : Blk E d n T l R) : Wordy T → FineI l := by
  induction h with
  | fin _ => intro _; trivial
  | item _ h1 _ ih => intro hw; exact ⟨h1.fine hw, ih (hw.suf h1.suf.1)⟩
  | when _ _ h3 _ _ h6 _ ih1 ih2 =>
    intro hw
    have hw1 := hw.suf (List.suffix_cons _ _)
    have hw2 := hw1.suf ((List.suffix_cons _ _).trans h3.suf.1)
    exact ⟨h3.fine hw1, ih1 hw2, ih2 (hw2.suf h6.suf.1)⟩
theorem Tys.fine {n : Nat} {T : List Tok} {l : List Ty} (h : Tys E n T l) : Wordy T → ∀ t ∈ l, FineT t := by
  induction h with
  | fin => intro _ t ht; simp at ht
  | one h1 h2 h3 h4 h5 _ ih =>
    intro hw t ht
    have hw1 := hw.suf (suf_cons (suf_cons (List.suffix_cons _ _)))
    rcases List.mem_cons.1 ht with rfl | ht
    · exact ⟨Wordy.name (hw _ (by simp)) h3, h5.fine hw1⟩
    · exact ih (hw1.suf h5.suf.1) t ht
end Tm
end Go.Proofs.YtlomecfhobehnaaGreatDoor
end
section
/- Templates in plain words: what is written is read. -/
namespace Go.Proofs.YtlomecfhobehnaaGreatDoor
set_option linter.unusedVariables false
set_option linter.unusedSimpArgs false
namespace Tm
open Ex
variable {E E' : Nat}
theorem stop_mark (u : Tok) (R : List Tok) (h : opLevel u.1 = 3) : Stop 0 (u :: R) := by
  intro t T' e j _ hm
  cases e
  have := (level_mark j _ hm).2
  omega
theorem ParT.back {x : X} (hx : FineX x) {S R : List Tok} (hS : S.map Prod.fst = ptX x) (hR : Stop 0 R) : ∃ y, Same x y ∧ ParT E (S ++ R) y R := by
  obtain ⟨y, hy, ho⟩ := (Ex.back (num := Num.numOf) (E := E) x hx.1).1 0 S R 0 (by have := hx.2; omega) hS (by omega) (by omega) (hR.mono (by omega))
  exact ⟨y, hy, ho _ (hR.done y 0)⟩
theorem map1 {S : List Tok} {a : Wd} {l : List Wd} (h : S.map Prod.fst = a :: l) : ∃ t S', S = t :: S' ∧ t.1 = a ∧ S'.map Prod.fst = l := by
  obtain ⟨t, S', h1, h2, h3⟩ := List.map_eq_cons_iff.1 h
  exact ⟨t, S', h1, h2, h3⟩
theorem mapa {S : List Tok} {a b : List Wd} (h : S.map Prod.fst = a ++ b) : ∃ U V, S = U ++ V ∧ U.map Prod.fst = a ∧ V.map Prod.fst = b := by
  obtain ⟨U, V, h1, h2, h3⟩ := List.map_eq_append_iff.1 h
  exact ⟨U, V, h1, h2, h3⟩
theorem tail_back {h : Hd} (hf : FineH h) {S R : List Tok} (hS : S.map Prod.fst = ptTail h.cnt h.rule ++ [[59]]) : ∃ c' s', SameO h.cnt c' ∧ TailP E h.k (S ++ R) c' h.rule (s' :: R) ∧ s'.1 = [59] := by
  obtain ⟨at_, k, name, cnt, rule⟩ := h
  obtain ⟨h1, h2, h3, h4, h5, h6⟩ := hf
  simp only [] at *
  obtain ⟨U, V, rfl, hU, hV⟩ := mapa hS
  obtain ⟨s, V', rfl, hs, hV'⟩ := map1 hV
  obtain rfl := List.map_eq_nil_iff.1 hV'
  have e : (U ++ [s]) ++ R = U ++ s :: R := by simp
  rw [e]
  cases cnt with
  | some c =>
    obtain ⟨hx, hr⟩ := h3 c rfl
    subst hr
    obtain ⟨o, U1, rfl, ho, hU1⟩ := map1 hU
    obtain ⟨P, Q, rfl, hP, hQ⟩ := mapa hU1
    obtain ⟨u, Q', rfl, hu, hQ'⟩ := map1 hQ
    obtain rfl := List.map_eq_nil_iff.1 hQ'
    obtain ⟨y, hy, hp⟩ := ParT.back (E := E) hx hP (R := u :: s :: R) (stop_mark u _ (by rw [hu]; decide))
    refine ⟨some y, s, hy, .cnt ?_ (by simp), hs⟩
    have e2 : (o :: (P ++ [u])) ++ s :: R = o :: (P ++ u :: s :: R) := by simp
    rw [e2]
    exact .yes ho hp hu
  | none =>
    refine ⟨none, s, trivial, ?_, hs⟩
    by_cases hr : rule = .none
    · subst hr
      obtain rfl := List.map_eq_nil_iff.1 hU
      refine .cnt (.no ?_) h5
      show s.1 ≠ [91]
      rw [hs]; decide
    · obtain ⟨w, rfl⟩ := h6 hr
      have hro : ∃ o U1, U = o :: U1 ∧ o.1 = [61] ∧ RuleP (U1 ++ s :: R) rule (s :: R) := by
        cases rule with
        | none => exact absurd rfl hr
        | size f =>
          obtain ⟨o, U1, rfl, ho, hU1⟩ := map1 hU
          obtain ⟨a, U2, rfl, ha, hU2⟩ := map1 hU1
          obtain ⟨b, U3, rfl, hb, hU3⟩ := map1 hU2
          obtain rfl := List.map_eq_nil_iff.1 hU3
          refine ⟨o, _, rfl, ho, ?_⟩
          rw [← hb]
          exact .size ha (by rw [hb]; exact h4.2)
        | count f =>
          obtain ⟨o, U1, rfl, ho, hU1⟩ := map1 hU
          obtain ⟨a, U2, rfl, ha, hU2⟩ := map1 hU1
          obtain ⟨b, U3, rfl, hb, hU3⟩ := map1 hU2
          obtain rfl := List.map_eq_nil_iff.1 hU3
          refine ⟨o, _, rfl, ho, ?_⟩
          rw [← hb]
          exact .count ha (by rw [hb]; exact h4.2)
        | check f l =>
          unfold ptTail at hU
          simp only [] at hU
          by_cases hfl : l = f
          · rw [if_pos hfl] at hU
            subst hfl
            obtain ⟨o, U1, rfl, ho, hU1⟩ := map1 hU
            obtain ⟨a, U2, rfl, ha, hU2⟩ := map1 hU1
            obtain ⟨b, U3, rfl, hb, hU3⟩ := map1 hU2
            obtain rfl := List.map_eq_nil_iff.1 hU3
            refine ⟨o, _, rfl, ho, ?_⟩
            rw [← hb]
            exact .check1 ha (by rw [hb]; exact h4.1.2) hs
          · rw [if_neg hfl] at hU
            obtain ⟨o, U1, rfl, ho, hU1⟩ := map1 hU
            obtain ⟨a, U2, rfl, ha, hU2⟩ := map1 hU1
            obtain ⟨b, U3, rfl, hb, hU3⟩ := map1 hU2
            obtain ⟨c, U4, rfl, hc, hU4⟩ := map1 hU3
            obtain rfl := List.map_eq_nil_iff.1 hU4
            refine ⟨o, _, rfl, ho, ?_⟩
            rw [← hb, ← hc]
            exact .check2 ha (by rw [hb]; exact h4.1.2) (by rw [hc]; intro e; have := h4.2.2; rw [e] at this; exact absurd this (by decide)) (by rw [hc]; exact h4.2.2)
      obtain ⟨o, U1, rfl, ho, hru⟩ := hro
      exact .rule ho hru
theorem HdP.back {T R0 : List Tok} {h : Hd} (hp : HdP E T h R0) (hf : FineH h) {S R : List Tok} (hS : S.map Prod.fst = ptH h) : ∃ h', SameH h h' ∧ HdP E' (S ++ R) h' R := by
  obtain ⟨t, S1, rfl, ht, hS1⟩ := map1 hS
  obtain ⟨n, S2, rfl, hn, hS2⟩ := map1 hS1
  obtain ⟨c', s', h1, h2, h3⟩ := tail_back (E := E') hf (R := R) hS2
  have hk : KndP t h.k := by
    obtain ⟨at_, k, name, cnt, rule⟩ := h
    simp only [] at ht ⊢
    cases k with
    | scalar w => rw [show w = t.1 from ht.symm]; exact .scalar (by rw [ht]; exact hf.1)
    | bytes => exact .bytes ht
    | struct w => rw [show w = t.1 from ht.symm]; exact .struct (by rw [ht]; exact hf.1.2)
  have hnm : nameB n.1 = true := by rw [hn]; exact hf.2.1.2
  exact ⟨⟨t.2, h.k, n.1, c', h.rule⟩, ⟨rfl, hn.symm, h1, rfl⟩, .mk hk hnm h2 h3⟩
theorem Blk.back {d n : Nat} {T R0 : List Tok} {l : Its} (h : Blk E d n T l R0) : FineI l → ∀ S R : List Tok, S.map Prod.fst = ptI l ++ [[125]] → ∃ l', SameI l l' ∧ Blk E' d n (S ++ R) l' R := by
  induction h with
  | fin _ =>
    intro _ S R hS
    obtain ⟨t, S1, rfl, ht, hS1⟩ := map1 hS
    obtain rfl := List.map_eq_nil_iff.1 hS1
    exact ⟨.nil, .nil, .fin ht⟩
  | @item d n T R1 R0 a l h1 h2 _ ih =>
    intro hf S R hS
    rw [show ptI (.cons a l) = ptH a ++ ptI l from rfl, List.append_assoc] at hS
    obtain ⟨U, V, rfl, hU, hV⟩ := mapa hS
    obtain ⟨l', g1, g2⟩ := ih hf.2 V R hV
    obtain ⟨a', g3, g4⟩ := h2.back (E' := E') hf.1 (R := V ++ R) hU
    exact ⟨.cons a' l', .cons g3 g1, by rw [List.append_assoc]; exact .item h1 g4 g2⟩
  | @when d n t b T T2 R1 R0 c body l h1 h2 h3 h4 h5 _ _ ih1 ih2 =>
    intro hf S R hS
    rw [show ptI (.when t.2 c body l) = wWhen :: (ptX c ++ [123] :: (ptI body ++ [125] :: ptI l)) from rfl] at hS
    obtain ⟨u, S1, rfl, hu, hS1⟩ := map1 (a := wWhen) (l := ptX c ++ ([123] :: (ptI body ++ [125] :: (ptI l ++ [[125]])))) (by rw [hS]; simp)
    obtain ⟨P, Q, rfl, hP, hQ⟩ := mapa hS1
    obtain ⟨o, Q1, rfl, ho, hQ1⟩ := map1 hQ
    obtain ⟨B, C, rfl, hB, hC⟩ := mapa (a := ptI body ++ [[125]]) (b := ptI l ++ [[125]]) (by rw [hQ1]; simp)
    obtain ⟨l', g1, g2⟩ := ih2 hf.2.2 C R hC
    obtain ⟨b', g3, g4⟩ := ih1 hf.2.1 B (C ++ R) hB
    obtain ⟨c', g5, g6⟩ := ParT.back (E := E') hf.1 hP (R := o :: (B ++ (C ++ R))) (stop_mark o _ (by rw [ho]; decide))
    refine ⟨.when u.2 c' b' l', .when g5 g3 g1, ?_⟩
    have e : (u :: (P ++ o :: (B ++ C))) ++ R = u :: (P ++ o :: (B ++ (C ++ R))) := by simp
    rw [e]
    exact .when h1 hu g6 ho h5 g4 g2
theorem Tys.back {n : Nat} {T : List Tok} {l : List Ty} (h : Tys E n T l) : (∀ t ∈ l, FineT t) → ∀ S : List Tok, S.map Prod.fst = ptTs l → ∃ l', SameTs l l' ∧ Tys E' n S l' := by
  induction h with
  | fin =>
    intro _ S hS
    obtain rfl := List.map_eq_nil_iff.1 hS
    exact ⟨[], .nil, .fin⟩
  | @one n t m b T R l r h1 h2 h3 h4 h5 _ ih =>
    intro hf S hS
    have hft := hf _ (List.mem_cons_self ..)
    obtain ⟨u, S1, rfl, hu, hS1⟩ := map1 (a := wStruct) (l := m.1 :: [123] :: ((ptI l ++ [[125]]) ++ ptTs r)) (by rw [hS]; show ptT _ ++ ptTs r = _; unfold ptT; simp)
    obtain ⟨v, S2, rfl, hv, hS2⟩ := map1 hS1
    obtain ⟨o, S3, rfl, ho, hS3⟩ := map1 hS2
    obtain ⟨U, V, rfl, hU, hV⟩ := mapa hS3
    obtain ⟨r', g1, g2⟩ := ih (fun t ht => hf t (List.mem_cons_of_mem _ ht)) V hV
    obtain ⟨l', g3, g4⟩ := h5.back (E' := E') hft.2 U V hU
    exact ⟨⟨v.1, v.2, l'⟩ :: r', .cons ⟨hv.symm, g3⟩ g1, .one h1 hu (by rw [hv]; exact h3) ho g4 g2⟩
end Tm
end Go.Proofs.YtlomecfhobehnaaGreatDoor
end
