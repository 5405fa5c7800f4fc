/- Templates in plain words: with other names, or at other places, they are read just so. -/
import Derived.Test.YtlomecfhobehnaaGreatDoorMgLayoutBack9
import Derived.Test.YtlomecfhobehnaaGreatDoorMgLayoutBack11
section
/- A name is its number: the law ExprNames in plain words. -/
namespace Go.Proofs.YtlomecfhobehnaaGreatDoor
set_option linter.unusedVariables false
set_option linter.unusedSimpArgs false
namespace Ex
section
variable {num : NumOf} {dec : Dec} (nm : List UInt8) (n : Nat)
def sub (dec : Dec) (nm : List UInt8) (n : Nat) (t : List UInt8) : List UInt8 := if t = nm then dec n else t
/-- a number in the place of a name -/
inductive Sub : X → X → Prop where
  | num (a b m : Nat) : Sub (.num a m) (.num b m)
  | name (a b : Nat) (s : List UInt8) : s ≠ nm → Sub (.name a s) (.name b s)
  | put (a b : Nat) : Sub (.name a nm) (.num b n)
  | bin (a b : Nat) (op : List UInt8) {l l' r r' : X} : Sub l l' → Sub r r' → Sub (.bin a op l r) (.bin b op l' r')
inductive SubC : Cat → Cat → Prop where
  | lev (k : Nat) : SubC (.lev k) (.lev k)
  | one : SubC .one .one
  | loop (k : Nat) {x y : X} : Sub nm n x y → SubC (.loop k x) (.loop k y)
theorem sub_stay {c : UInt8} {r t : List UInt8} (hc : nm = c :: r) (hl : Lex.letter c.toNat = true) (ht : ∀ d s, t = d :: s → Lex.letter d.toNat = false) : sub dec nm n t = t := by
  unfold sub
  rw [if_neg]
  intro e
  have := ht c r (by rw [e, hc])
  rw [hl] at this; cases this
theorem cons_sub {T' : List Tok} {t : Tok} {T : List Tok} {f : List UInt8 → List UInt8} (h : T'.map Prod.fst = (t :: T).map fun u => f u.1) : ∃ t' T2, T' = t' :: T2 ∧ t'.1 = f t.1 ∧ T2.map Prod.fst = T.map fun u => f u.1 := by
  rw [List.map_cons] at h
  obtain ⟨a, S1, rfl, ha, h1⟩ := List.map_eq_cons_iff.1 h
  exact ⟨a, S1, rfl, ha, h1⟩
theorem level_letter (k : Nat) (op : List UInt8) (h : op ∈ levels k) : ∀ d s, op = d :: s → Lex.letter d.toNat = false := by
  intro d s e
  obtain ⟨c, l, h1, h2, _⟩ := Lex.mark_head op (level_mark k op h).1
  rw [e] at h1
  cases h1
  unfold Lex.word at h2
  rw [Bool.or_eq_false_iff] at h2
  exact h2.1
theorem sub_read {E E' : Nat} {cn : UInt8} {rn : List UInt8} (hc : nm = cn :: rn) (hl : Lex.letter cn.toNat = true) (hd1 : dec n ≠ []) (hd2 : ∀ c ∈ dec n, Lex.digit c.toNat = true) (hd3 : num (dec n) = .inl n)
    {c : Cat} {d : Nat} {T : List Tok} {o : Out} (h : Par num E c d T o) : ∀ x R, o = .ok x R → ∀ c' T', SubC nm n c c' → T'.map Prod.fst = T.map (fun t => sub dec nm n t.1) → ∃ y R', Sub nm n x y ∧ R'.map Prod.fst = R.map (fun t => sub dec nm n t.1) ∧ Par num E' c' d T' (.ok y R') := by
  induction h with
  | top _ ih =>
    intro x R e c' T' hcc hT
    cases hcc
    obtain ⟨y, R', h1, h2, h3⟩ := ih x R e .one T' .one hT
    exact ⟨y, R', h1, h2, .top h3⟩
  | lev hk _ _ ih1 ih2 =>
    intro x R e c' T' hcc hT
    cases hcc
    obtain ⟨y, R', h1, h2, h3⟩ := ih1 _ _ rfl _ T' (.lev _) hT
    obtain ⟨z, R2, h4, h5, h6⟩ := ih2 x R e _ R' (.loop _ h1) h2
    exact ⟨z, R2, h4, h5, .lev hk h3 h6⟩
  | levBad => intro x R e; cases e
  | @done k x d T hx =>
    intro x' R e c' T' hcc hT
    cases e
    cases hcc with
    | loop _ hs =>
      refine ⟨_, T', hs, hT, .done ?_⟩
      intro t T2 e hm
      subst e
      cases T with
      | nil => simp at hT
      | cons u U =>
        have hu := hx u U rfl
        rw [List.map_cons, List.map_cons] at hT
        have ht : t.1 = sub dec nm n u.1 := (List.cons.inj hT).1
        rw [ht] at hm
        unfold sub at hm
        split at hm
        · have hne := hd1
          cases hdn : dec n with
          | nil => exact hd1 hdn
          | cons a r =>
            obtain ⟨c, l, h1, h2, _⟩ := Lex.mark_head _ (level_mark k _ hm).1
            rw [hdn] at h1
            cases h1
            have := digit_word a (hd2 a (by rw [hdn]; simp))
            rw [h2] at this; cases this
        · exact hu hm
  | @more k y d t T T2 z o ht _ _ ih1 ih2 =>
    intro x R e c' T' hcc hT
    cases hcc with
    | loop _ hs =>
      obtain ⟨t', T3, rfl, h1, h2⟩ := cons_sub hT
      rw [sub_stay nm n hc hl (level_letter k t.1 ht)] at h1
      obtain ⟨y2, R', h3, h4, h5⟩ := ih1 _ _ rfl _ T3 (.lev _) h2
      obtain ⟨z2, R2, h6, h7, h8⟩ := ih2 x R e _ R' (.loop _ (.bin t.2 t'.2 t.1 hs h3)) h4
      refine ⟨z2, R2, h6, h7, .more (by rw [h1]; exact ht) h5 ?_⟩
      rw [h1]; exact h8
  | moreBad => intro x R e; cases e
  | @paren d t T u T2 x h1 h2 _ h3 ih =>
    intro x' R e c' T' hcc hT
    cases e
    cases hcc
    obtain ⟨t', T3, rfl, h4, h5⟩ := cons_sub hT
    obtain ⟨y, R', h6, h7, h8⟩ := ih _ _ rfl _ T3 (.lev 0) h5
    obtain ⟨u', R2, rfl, h9, h10⟩ := cons_sub h7
    rw [h1, sub_stay nm n hc hl (by intro d s e; cases e; decide)] at h4
    rw [h3, sub_stay nm n hc hl (by intro d s e; cases e; decide)] at h9
    exact ⟨y, R2, h6, h10, .paren h4 h2 h8 h9⟩
  | parenNone => intro x R e; cases e
  | parenBad => intro x R e; cases e
  | deep => intro x R e; cases e
  | @name d t T c r h1 h2 h3 =>
    intro x R e c' T' hcc hT
    cases e
    cases hcc
    obtain ⟨t', T3, rfl, h4, h5⟩ := cons_sub hT
    by_cases hq : t.1 = nm
    · unfold sub at h4
      rw [if_pos hq] at h4
      obtain ⟨a, s, hs, hds⟩ := digit_first hd1 hd2
      refine ⟨.num t'.2 n, T3, by rw [hq]; exact .put _ _, h5, .num (c := a) (r := s) (by rw [h4]; exact hs) hds (by rw [h4]; exact hd3)⟩
    · unfold sub at h4
      rw [if_neg hq] at h4
      refine ⟨.name t'.2 t.1, T3, .name _ _ _ hq, h5, ?_⟩
      have := Par.name (num := num) (E := E') (d := d) (T := T3) (t := t') (c := c) (r := r) (by rw [h4]; exact h1) h2 (by rw [h4]; exact h3)
      rw [h4] at this
      exact this
  | nameLong => intro x R e; cases e
  | none => intro x R e; cases e
  | mark => intro x R e; cases e
  | @num d t T c r m h1 h2 h3 =>
    intro x R e c' T' hcc hT
    cases e
    cases hcc
    obtain ⟨t', T3, rfl, h4, h5⟩ := cons_sub hT
    have hnl : Lex.letter c.toNat = false := by
      unfold Lex.digit at h2
      have := of_decide_eq_true h2
      unfold Lex.letter
      simp
      omega
    rw [sub_stay nm n hc hl (by intro a s e; rw [h1] at e; cases e; exact hnl)] at h4
    exact ⟨.num t'.2 m, T3, .num _ _ _, h5, .num (c := c) (r := r) (by rw [h4]; exact h1) h2 (by rw [h4]; exact h3)⟩
  | numBad => intro x R e; cases e
theorem Sub.ev {N M : Names} (hn : N nm = some (n : Int)) (hM : ∀ s, s ≠ nm → M s = N s) {x y : X} (h : Sub nm n x y) : Ex.ev M y = Ex.ev N x := by
  induction h with
  | num => rfl
  | name a b s hs => exact hM s hs
  | put a b => show some ((n : Nat) : Int) = N nm; rw [hn]
  | bin a b op _ _ ih1 ih2 => unfold Ex.ev; rw [ih1, ih2]
end
end Ex
end Go.Proofs.YtlomecfhobehnaaGreatDoor
end
section
/- Templates in plain words: other names, other places, and more behind. -/
namespace Go.Proofs.YtlomecfhobehnaaGreatDoor
set_option linter.unusedVariables false
set_option linter.unusedSimpArgs false
namespace Tm
open Ex
variable {E E' : Nat}
/-! ## more behind -/
theorem Par.more_behind {num : NumOf} {c : Cat} {d : Nat} {T : List Tok} {o : Out} (h : Par num E c d T o) : ∀ x R U, o = .ok x R → R ≠ [] → Par num E c d (T ++ U) (.ok x (R ++ U)) := by
  induction h with
  | top _ ih => intro x R U e hR; exact .top (ih x R U e hR)
  | lev hk h1 h2 ih1 ih2 =>
    intro x R U e hR
    have hs := (h2.less _ _ e).1
    refine .lev hk (ih1 _ _ U rfl ?_) (ih2 x R U e hR)
    intro e2
    rw [e2] at hs
    exact hR (List.suffix_nil.1 hs)
  | levBad => intro x R U e; cases e
  | @done k x d T h =>
    intro y R U e hR
    cases e
    refine .done ?_
    intro t T' e
    cases T with
    | nil => exact absurd rfl hR
    | cons u T =>
      rw [List.cons_append] at e
      cases e
      exact h _ _ rfl
  | more h1 h2 h3 ih1 ih2 =>
    intro x R U e hR
    have hs := (h3.less _ _ e).1
    refine .more h1 (ih1 _ _ U rfl ?_) (ih2 x R U e hR)
    intro e2
    rw [e2] at hs
    exact hR (List.suffix_nil.1 hs)
  | moreBad => intro x R U e; cases e
  | paren h1 h2 h3 h4 ih =>
    intro x R U e hR
    cases e
    exact .paren h1 h2 (ih _ _ U rfl (by simp)) h4
  | parenNone => intro x R U e; cases e
  | parenBad => intro x R U e; cases e
  | deep => intro x R U e; cases e
  | name h1 h2 h3 => intro x R U e hR; cases e; exact .name h1 h2 h3
  | nameLong => intro x R U e; cases e
  | none => intro x R U e; cases e
  | mark => intro x R U e; cases e
  | num h1 h2 h3 => intro x R U e hR; cases e; exact .num h1 h2 h3
  | numBad => intro x R U e; cases e
theorem ParT.behind {T R : List Tok} {x : X} {u : Tok} (h : ParT E T x (u :: R)) (U : List Tok) : ParT E (T ++ U) x (u :: (R ++ U)) := Par.more_behind h x (u :: R) U rfl (by simp)
theorem Cnt.behind {T R : List Tok} {s : Tok} {c : Option X} (h : Cnt E T c (s :: R)) (U : List Tok) : Cnt E (T ++ U) c (s :: (R ++ U)) := by
  cases h with
  | no h1 => exact .no h1
  | yes h1 h2 h3 => exact .yes h1 (h2.behind U) h3
theorem RuleP.behind {T R : List Tok} {s : Tok} {r : Rl} (h : RuleP T r (s :: R)) (U : List Tok) : RuleP (T ++ U) r (s :: (R ++ U)) := by
  cases h with
  | size h1 h2 => exact .size h1 h2
  | count h1 h2 => exact .count h1 h2
  | check1 h1 h2 h3 => exact .check1 h1 h2 h3
  | check2 h1 h2 h3 h4 => exact .check2 h1 h2 h3 h4
theorem HdP.behind {T R : List Tok} {a : Hd} (h : HdP E T a R) (U : List Tok) : HdP E (T ++ U) a (R ++ U) := by
  cases h with
  | mk h1 h2 h3 h4 =>
    refine .mk h1 h2 ?_ h4
    cases h3 with
    | cnt g1 g2 => exact .cnt (g1.behind U) g2
    | rule g1 g2 => exact .rule g1 (g2.behind U)
theorem Blk.behind {d n : Nat} {T R : List Tok} {l : Its} (h : Blk E d n T l R) (U : List Tok) : Blk E d n (T ++ U) l (R ++ U) := by
  induction h with
  | fin h1 => exact .fin h1
  | item h1 h2 _ ih => exact .item h1 (h2.behind U) ih
  | when h1 h2 h3 h4 h5 _ _ ih1 ih2 => exact .when h1 h2 (h3.behind U) h4 h5 ih1 ih2
theorem Tys.append {n : Nat} {T U : List Tok} {l m : List Ty} (h : Tys E n T l) : Tys E (n + l.length) U m → Tys E n (T ++ U) (l ++ m) := by
  induction h with
  | fin => intro g; simpa using g
  | one h1 h2 h3 h4 h5 _ ih =>
    intro g
    refine .one h1 h2 h3 h4 (h5.behind U) (ih ?_)
    rw [List.length_cons] at g
    rwa [Nat.add_assoc, Nat.add_comm 1]
theorem Tys.few {n : Nat} {T : List Tok} {l : List Ty} (h : Tys E n T l) : n + l.length ≤ max n 8 := by
  induction h with
  | fin => simp; omega
  | one h1 _ _ _ _ _ ih => rw [List.length_cons]; omega
theorem Tys.from {n : Nat} {T : List Tok} {l : List Ty} (h : Tys E n T l) : ∀ k, k + l.length ≤ 8 → Tys E k T l := by
  induction h with
  | fin => intro k _; exact .fin
  | one h1 h2 h3 h4 h5 _ ih => intro k hk; rw [List.length_cons] at hk; exact .one (by omega) h2 h3 h4 h5 (ih (k + 1) (by omega))
/-! ## other names -/
/-- names to names, and all else stays -/
structure Ren (f : Wd → Wd) : Prop where
  name : ∀ w, nameB w = true → nameB (f w) = true
  else_ : ∀ w, nameB w = false → f w = w
variable {f : Wd → Wd}
def renX (f : Wd → Wd) : X → X → Prop
  | .num _ n, .num _ m => n = m
  | .name _ s, .name _ t => t = f s
  | .bin _ op l r, .bin _ op' l' r' => op' = op ∧ renX f l l' ∧ renX f r r'
  | _, _ => False
theorem mark_name {w : Wd} {c : UInt8} {r : Wd} (h : w = c :: r) (hc : Lex.letter c.toNat = false) : nameB w = false := by
  subst h
  unfold nameB lettered
  simp only []
  rw [hc]; rfl
theorem Ren.first (hf : Ren f) {w : Wd} (h : lettered w = false) : f w = w := by
  refine hf.else_ w ?_
  unfold nameB
  rw [h]; rfl
theorem Ren.lev (hf : Ren f) (k : Nat) (w : Wd) : w ∈ levels k → f w = w := by
  intro h
  refine hf.first ?_
  cases w with
  | nil => rfl
  | cons c r => exact level_letter k (c :: r) h c r rfl
theorem Ren.lev_iff (hf : Ren f) (k : Nat) (w : Wd) : f w ∈ levels k ↔ w ∈ levels k := by
  constructor
  · intro h
    by_cases hn : nameB w = true
    · have h2 := hf.name w hn
      cases hw : f w with
      | nil => rw [hw] at h2; exact absurd h2 (by decide)
      | cons c r =>
        rw [hw] at h h2
        have := level_letter k (c :: r) h c r rfl
        rw [mark_name rfl this] at h2
        cases h2
    · rwa [hf.else_ w (by simpa using hn)] at h
  · intro h; rwa [hf.lev k w h]
theorem Ren.letter (hf : Ren f) {w : Wd} {c : UInt8} {r : Wd} (h : w = c :: r) (hl : Lex.letter c.toNat = true) (h12 : w.length ≤ 12) : ∃ c' r', f w = c' :: r' ∧ Lex.letter c'.toNat = true ∧ (f w).length ≤ 12 := by
  by_cases hn : nameB w = true
  · have h2 := hf.name w hn
    unfold nameB at h2
    simp only [Bool.and_eq_true, decide_eq_true_eq] at h2
    cases hw : f w with
    | nil => rw [hw] at h2; exact absurd h2.1.1 (by decide)
    | cons c' r' => rw [hw] at h2; exact ⟨c', r', rfl, h2.1.1, h2.2⟩
  · rw [hf.else_ w (by simpa using hn)]
    exact ⟨c, r, h, hl, h12⟩
theorem mapf {S T : List Tok} {t : Tok} (h : S.map Prod.fst = (t :: T).map fun u => f u.1) : ∃ s S', S = s :: S' ∧ s.1 = f t.1 ∧ S'.map Prod.fst = T.map fun u => f u.1 := by
  rw [List.map_cons] at h
  exact map1 h
theorem renX_bin {x y l l' : X} {a a' : Nat} {op : Wd} (h1 : renX f x l) (h2 : renX f y l') : renX f (.bin a op x y) (.bin a' op l l') := ⟨rfl, h1, h2⟩
theorem Par.ren (hf : Ren f) {c : Cat} {d : Nat} {T : List Tok} {o : Out} (h : Par Num.numOf E c d T o) : ∀ x R S, o = .ok x R → S.map Prod.fst = (T.map fun u => f u.1) → ∀ c', (match c, c' with | .lev k, .lev k' => k = k' | .one, .one => True | .loop k y, .loop k' y' => k = k' ∧ renX f y y' | _, _ => False) →
    ∃ x' R', renX f x x' ∧ R'.map Prod.fst = (R.map fun u => f u.1) ∧ Par Num.numOf E' c' d S (.ok x' R') := by
  induction h with
  | top _ ih =>
    intro x R S e hS c' hc
    cases c' with
    | lev k' =>
      subst hc
      obtain ⟨x', R', h1, h2, h3⟩ := ih x R S e hS .one trivial
      exact ⟨x', R', h1, h2, .top h3⟩
    | loop => exact hc.elim
    | one => exact hc.elim
  | lev hk h1 h2 ih1 ih2 =>
    intro x R S e hS c' hc
    cases c' with
    | lev k' =>
      subst hc
      obtain ⟨y', R', g1, g2, g3⟩ := ih1 _ _ S rfl hS (.lev _) rfl
      obtain ⟨x', R2, g4, g5, g6⟩ := ih2 x R R' e g2 (.loop _ y') ⟨rfl, g1⟩
      exact ⟨x', R2, g4, g5, .lev hk g3 g6⟩
    | loop => exact hc.elim
    | one => exact hc.elim
  | levBad => intro x R S e; cases e
  | @done k x d T h =>
    intro y R S e hS c' hc
    cases e
    cases c' with
    | lev => exact hc.elim
    | one => exact hc.elim
    | loop k' y' =>
      obtain ⟨rfl, hy⟩ := hc
      refine ⟨y', S, hy, hS, .done ?_⟩
      intro t S' e
      subst e
      cases T with
      | nil => cases hS
      | cons u T =>
        obtain ⟨s, S2, e1, e2, _⟩ := mapf hS
        cases e1
        rw [e2, hf.lev_iff]
        exact h _ _ rfl
  | more h1 h2 h3 ih1 ih2 =>
    intro x R S e hS c' hc
    cases c' with
    | lev => exact hc.elim
    | one => exact hc.elim
    | loop k' y' =>
      obtain ⟨rfl, hy⟩ := hc
      obtain ⟨s, S2, rfl, e2, hS2⟩ := mapf hS
      obtain ⟨z', R', g1, g2, g3⟩ := ih1 _ _ S2 rfl hS2 (.lev _) rfl
      have e3 := hf.lev _ _ h1
      rw [e3] at e2
      obtain ⟨x', R2, g4, g5, g6⟩ := ih2 x R R' e g2 (.loop _ (.bin s.2 s.1 y' z')) ⟨rfl, e2, hy, g1⟩
      exact ⟨x', R2, g4, g5, .more (by rw [e2]; exact h1) g3 g6⟩
  | moreBad => intro x R S e; cases e
  | paren h1 h2 h3 h4 ih =>
    intro x R S e hS c' hc
    cases e
    cases c' with
    | lev => exact hc.elim
    | loop => exact hc.elim
    | one =>
      obtain ⟨s, S2, rfl, e2, hS2⟩ := mapf hS
      obtain ⟨x', R', g1, g2, g3⟩ := ih _ _ S2 rfl hS2 (.lev 0) rfl
      obtain ⟨s2, S3, rfl, e3, hS3⟩ := mapf g2
      rw [h1, hf.first (w := [40]) (by decide)] at e2
      rw [h4, hf.first (w := [41]) (by decide)] at e3
      exact ⟨x', S3, g1, hS3, .paren e2 h2 g3 e3⟩
  | parenNone => intro x R S e; cases e
  | parenBad => intro x R S e; cases e
  | deep => intro x R S e; cases e
  | name h1 h2 h3 =>
    intro x R S e hS c' hc
    cases e
    cases c' with
    | lev => exact hc.elim
    | loop => exact hc.elim
    | one =>
      obtain ⟨s, S2, rfl, e2, hS2⟩ := mapf hS
      obtain ⟨c', r', g1, g2, g3⟩ := hf.letter h1 h2 h3
      rw [← e2] at g1 g3
      exact ⟨.name s.2 s.1, S2, e2, hS2, .name g1 g2 g3⟩
  | nameLong => intro x R S e; cases e
  | none => intro x R S e; cases e
  | mark => intro x R S e; cases e
  | @num d t T c r n h1 h2 h3 =>
    intro x R S e hS c' hc
    cases e
    cases c' with
    | lev => exact hc.elim
    | loop => exact hc.elim
    | one =>
      obtain ⟨s, S2, rfl, e2, hS2⟩ := mapf hS
      have hl : Lex.letter c.toNat = false := by
        cases hb : Lex.letter c.toNat with
        | false => rfl
        | true => exact (Par.det.let_dig hb h2).elim
      rw [hf.first (w := t.1) (by rw [h1]; exact hl)] at e2
      exact ⟨.num s.2 n, S2, rfl, hS2, .num (by rw [e2]; exact h1) h2 (by rw [e2]; exact h3)⟩
  | numBad => intro x R S e; cases e
end Tm
end Go.Proofs.YtlomecfhobehnaaGreatDoor
end
section
/- Templates in plain words: with other names, or at other places, they are read just so. -/
namespace Go.Proofs.YtlomecfhobehnaaGreatDoor
set_option linter.unusedVariables false
set_option linter.unusedSimpArgs false
namespace Tm
open Ex
variable {E E' : Nat} {f : Wd → Wd}
def renO (f : Wd → Wd) : Option X → Option X → Prop
  | none, none => True
  | some a, some b => renX f a b
  | _, _ => False
def renK (f : Wd → Wd) : Knd → Knd
  | .scalar w => .scalar w
  | .bytes => .bytes
  | .struct t => .struct (f t)
def renR (f : Wd → Wd) : Rl → Rl
  | .none => .none
  | .size a => .size (f a)
  | .count a => .count (f a)
  | .check a b => .check (f a) (f b)
def RenH (f : Wd → Wd) (a b : Hd) : Prop := b.k = renK f a.k ∧ b.name = f a.name ∧ renO f a.cnt b.cnt ∧ b.rule = renR f a.rule
inductive RenI (f : Wd → Wd) : Its → Its → Prop where
  | nil : RenI f .nil .nil
  | cons {h h' : Hd} {l l' : Its} : RenH f h h' → RenI f l l' → RenI f (.cons h l) (.cons h' l')
  | when {a a' : Nat} {c c' : X} {b b' l l' : Its} : renX f c c' → RenI f b b' → RenI f l l' → RenI f (.when a c b l) (.when a' c' b' l')
def RenT (f : Wd → Wd) (a b : Ty) : Prop := b.name = f a.name ∧ RenI f a.items b.items
inductive RenTs (f : Wd → Wd) : List Ty → List Ty → Prop where
  | nil : RenTs f [] []
  | cons {a b : Ty} {l m : List Ty} : RenT f a b → RenTs f l m → RenTs f (a :: l) (b :: m)
theorem Ren.mark (hf : Ren f) {w m : Wd} (hm : nameB m = false) : f w = m ↔ w = m := by
  constructor
  · intro h
    by_cases hn : nameB w = true
    · have := hf.name w hn
      rw [h, hm] at this
      cases this
    · rwa [hf.else_ w (by simpa using hn)] at h
  · rintro rfl; exact hf.else_ _ hm
theorem ParT.ren (hf : Ren f) {T R S : List Tok} {x : X} (h : ParT E T x R) (hS : S.map Prod.fst = (T.map fun u => f u.1)) : ∃ x' R', renX f x x' ∧ R'.map Prod.fst = (R.map fun u => f u.1) ∧ ParT E' S x' R' :=
  Par.ren (E' := E') hf h x R S rfl hS (.lev 0) rfl
theorem textf (hf : Ren f) {S T : List Tok} (hS : S.map Prod.fst = (T.map fun u => f u.1)) {m : Wd} (hm : nameB m = false) : textOf S = m ↔ textOf T = m := by
  cases T with
  | nil =>
    rw [List.map_nil] at hS
    obtain rfl := List.map_eq_nil_iff.1 hS
    exact Iff.rfl
  | cons t T =>
    obtain ⟨s, S', rfl, e, _⟩ := mapf hS
    show s.1 = m ↔ t.1 = m
    rw [e, hf.mark hm]
theorem Cnt.ren (hf : Ren f) {T R S : List Tok} {c : Option X} (h : Cnt E T c R) (hS : S.map Prod.fst = (T.map fun u => f u.1)) : ∃ c' R', renO f c c' ∧ R'.map Prod.fst = (R.map fun u => f u.1) ∧ Cnt E' S c' R' := by
  cases h with
  | no h1 => exact ⟨none, S, trivial, hS, .no (by rw [Ne, textf hf hS (by decide)]; exact h1)⟩
  | yes h1 h2 h3 =>
    obtain ⟨s, S1, rfl, e1, hS1⟩ := mapf hS
    obtain ⟨x', R1, g1, g2, g3⟩ := h2.ren (E' := E') hf hS1
    obtain ⟨u, R', rfl, e2, hR'⟩ := mapf g2
    exact ⟨some x', R', g1, hR', .yes (by rw [e1, hf.mark (by decide)]; exact h1) g3 (by rw [e2, hf.mark (by decide)]; exact h3)⟩
theorem RuleP.ren (hf : Ren f) {T R S : List Tok} {r : Rl} (h : RuleP T r R) (hS : S.map Prod.fst = (T.map fun u => f u.1)) : ∃ R', R'.map Prod.fst = (R.map fun u => f u.1) ∧ RuleP S (renR f r) R' := by
  cases h with
  | size h1 h2 =>
    obtain ⟨s, S1, rfl, e1, hS1⟩ := mapf hS
    obtain ⟨u, S2, rfl, e2, hS2⟩ := mapf hS1
    refine ⟨S2, hS2, ?_⟩
    show RuleP _ (.size (f _)) _
    rw [← e2]
    exact .size (by rw [e1, hf.mark (by decide)]; exact h1) (by rw [e2]; exact hf.name _ h2)
  | count h1 h2 =>
    obtain ⟨s, S1, rfl, e1, hS1⟩ := mapf hS
    obtain ⟨u, S2, rfl, e2, hS2⟩ := mapf hS1
    refine ⟨S2, hS2, ?_⟩
    show RuleP _ (.count (f _)) _
    rw [← e2]
    exact .count (by rw [e1, hf.mark (by decide)]; exact h1) (by rw [e2]; exact hf.name _ h2)
  | check1 h1 h2 h3 =>
    obtain ⟨s, S1, rfl, e1, hS1⟩ := mapf hS
    obtain ⟨u, S2, rfl, e2, hS2⟩ := mapf hS1
    refine ⟨S2, hS2, ?_⟩
    show RuleP _ (.check (f _) (f _)) _
    rw [← e2]
    exact .check1 (by rw [e1, hf.mark (by decide)]; exact h1) (by rw [e2]; exact hf.name _ h2) (by rw [textf hf hS2 (by decide)]; exact h3)
  | check2 h1 h2 h3 h4 =>
    obtain ⟨s, S1, rfl, e1, hS1⟩ := mapf hS
    obtain ⟨u, S2, rfl, e2, hS2⟩ := mapf hS1
    obtain ⟨v, S3, rfl, e3, hS3⟩ := mapf hS2
    refine ⟨S3, hS3, ?_⟩
    show RuleP _ (.check (f _) (f _)) _
    rw [← e2, ← e3]
    exact .check2 (by rw [e1, hf.mark (by decide)]; exact h1) (by rw [e2]; exact hf.name _ h2) (by rw [e3, Ne, hf.mark (by decide)]; exact h3) (by rw [e3]; exact hf.name _ h4)
theorem TailP.ren (hf : Ren f) {k : Knd} {T R S : List Tok} {c : Option X} {r : Rl} (h : TailP E k T c r R) (hS : S.map Prod.fst = (T.map fun u => f u.1)) : ∃ c' R', renO f c c' ∧ R'.map Prod.fst = (R.map fun u => f u.1) ∧ TailP E' (renK f k) S c' (renR f r) R' := by
  cases h with
  | cnt h1 h2 =>
    obtain ⟨c', R', g1, g2, g3⟩ := h1.ren (E' := E') hf hS
    refine ⟨c', R', g1, g2, .cnt g3 ?_⟩
    intro e e2
    have hk : k = .bytes := by cases k <;> first | rfl | cases e
    cases c with
    | none => exact h2 hk rfl
    | some x => subst e2; exact g1.elim
  | rule h1 h2 =>
    obtain ⟨s, S1, rfl, e1, hS1⟩ := mapf hS
    obtain ⟨R', g1, g2⟩ := h2.ren hf hS1
    exact ⟨none, R', trivial, g1, .rule (by rw [e1, hf.mark (by decide)]; exact h1) g2⟩
theorem kept_no {w : Wd} (h : keptB w = true) : nameB w = false := by
  unfold nameB
  rw [h]; simp
theorem KndP.ren (hf : Ren f) {t s : Tok} {k : Knd} (h : KndP t k) (hs : s.1 = f t.1) : KndP s (renK f k) := by
  cases h with
  | scalar h1 =>
    have : f t.1 = t.1 := hf.else_ _ (kept_no (by unfold keptB; rw [h1]; rfl))
    show KndP s (.scalar t.1)
    rw [← this, ← hs]
    exact .scalar (by rw [hs, this]; exact h1)
  | bytes h1 => exact .bytes (by rw [hs, hf.mark (by decide)]; exact h1)
  | struct h1 =>
    show KndP s (.struct (f t.1))
    rw [← hs]
    exact .struct (by rw [hs]; exact hf.name _ h1)
theorem HdP.ren (hf : Ren f) {T R S : List Tok} {a : Hd} (h : HdP E T a R) (hS : S.map Prod.fst = (T.map fun u => f u.1)) : ∃ b R', RenH f a b ∧ R'.map Prod.fst = (R.map fun u => f u.1) ∧ HdP E' S b R' := by
  cases h with
  | mk h1 h2 h3 h4 =>
    obtain ⟨t, S1, rfl, e1, hS1⟩ := mapf hS
    obtain ⟨n, S2, rfl, e2, hS2⟩ := mapf hS1
    obtain ⟨c', R1, g1, g2, g3⟩ := h3.ren (E' := E') hf hS2
    obtain ⟨s, R', rfl, e3, hR'⟩ := mapf g2
    exact ⟨⟨t.2, _, n.1, c', _⟩, R', ⟨rfl, e2, g1, rfl⟩, hR', .mk (h1.ren hf e1) (by rw [e2]; exact hf.name _ h2) g3 (by rw [e3, hf.mark (by decide)]; exact h4)⟩
theorem Blk.ren (hf : Ren f) {d n : Nat} {T R : List Tok} {l : Its} (h : Blk E d n T l R) : ∀ S : List Tok, S.map Prod.fst = (T.map fun u => f u.1) → ∃ l' R', RenI f l l' ∧ R'.map Prod.fst = (R.map fun u => f u.1) ∧ Blk E' d n S l' R' := by
  induction h with
  | fin h1 =>
    intro S hS
    obtain ⟨t, S1, rfl, e1, hS1⟩ := mapf hS
    exact ⟨.nil, S1, .nil, hS1, .fin (by rw [e1, hf.mark (by decide)]; exact h1)⟩
  | item h1 h2 _ ih =>
    intro S hS
    obtain ⟨b, R1, g1, g2, g3⟩ := h2.ren (E' := E') hf hS
    obtain ⟨l', R', g4, g5, g6⟩ := ih R1 g2
    exact ⟨.cons b l', R', .cons g1 g4, g5, .item h1 g3 g6⟩
  | when h1 h2 h3 h4 h5 _ _ ih1 ih2 =>
    intro S hS
    obtain ⟨t, S1, rfl, e1, hS1⟩ := mapf hS
    obtain ⟨x', R1, g1, g2, g3⟩ := h3.ren (E' := E') hf hS1
    obtain ⟨b, R2, rfl, e2, hR2⟩ := mapf g2
    obtain ⟨b', R3, g4, g5, g6⟩ := ih1 R2 hR2
    obtain ⟨l', R', g7, g8, g9⟩ := ih2 R3 g5
    exact ⟨.when t.2 x' b' l', R', .when g1 g4 g7, g8, .when h1 (by rw [e1, hf.mark (by decide)]; exact h2) g3 (by rw [e2, hf.mark (by decide)]; exact h4) h5 g6 g9⟩
theorem Tys.ren (hf : Ren f) {n : Nat} {T : List Tok} {l : List Ty} (h : Tys E n T l) : ∀ S : List Tok, S.map Prod.fst = (T.map fun u => f u.1) → ∃ l', RenTs f l l' ∧ Tys E' n S l' := by
  induction h with
  | fin =>
    intro S hS
    obtain rfl := List.map_eq_nil_iff.1 hS
    exact ⟨[], .nil, .fin⟩
  | one h1 h2 h3 h4 h5 _ ih =>
    intro S hS
    obtain ⟨t, S1, rfl, e1, hS1⟩ := mapf hS
    obtain ⟨m, S2, rfl, e2, hS2⟩ := mapf hS1
    obtain ⟨b, S3, rfl, e3, hS3⟩ := mapf hS2
    obtain ⟨l', R', g1, g2, g3⟩ := h5.ren (E' := E') hf S3 hS3
    obtain ⟨r', g4, g5⟩ := ih R' g2
    exact ⟨⟨m.1, m.2, l'⟩ :: r', .cons ⟨e2, g1⟩ g4, .one h1 (by rw [e1, hf.mark (by decide)]; exact h2) (by rw [e2]; exact hf.name _ h3) (by rw [e3, hf.mark (by decide)]; exact h4) g3 g5⟩
/-! ## names that stay -/
theorem ren_id : Ren id := ⟨fun w h => h, fun w h => rfl⟩
theorem renX_same : ∀ {x y : X}, renX id x y → Same x y
  | .num _ n, .num _ m, h => by cases h; exact .num _ _ _
  | .name _ s, .name _ t, h => by cases h; exact .name _ _ _
  | .bin _ op l r, .bin _ op' l' r', h => by
    obtain ⟨rfl, h1, h2⟩ := h
    exact .bin _ _ _ (renX_same h1) (renX_same h2)
theorem renI_same {l l' : Its} (h : RenI id l l') : SameI l l' := by
  induction h with
  | nil => exact .nil
  | @cons a b l l' hh _ ih =>
    obtain ⟨h1, h2, h3, h4⟩ := hh
    refine .cons ⟨?_, h2.symm, ?_, ?_⟩ ih
    · rw [h1]; cases a.k <;> rfl
    · cases ha : a.cnt with
      | none => rw [ha] at h3; cases hb : b.cnt with
        | none => trivial
        | some y => rw [hb] at h3; exact h3.elim
      | some x => rw [ha] at h3; cases hb : b.cnt with
        | none => rw [hb] at h3; exact h3.elim
        | some y => rw [hb] at h3; exact renX_same h3
    · rw [h4]; cases a.rule <;> rfl
  | when hc _ _ ih1 ih2 => exact .when (renX_same hc) ih1 ih2
theorem renTs_same {l l' : List Ty} (h : RenTs id l l') : SameTs l l' := by
  induction h with
  | nil => exact .nil
  | cons hh _ ih => exact .cons ⟨hh.1.symm, renI_same hh.2⟩ ih
/-- the same texts at other places -/
theorem Tys.shift {n : Nat} {T S : List Tok} {l : List Ty} (h : Tys E n T l) (hS : S.map Prod.fst = T.map Prod.fst) : ∃ l', SameTs l l' ∧ Tys E' n S l' := by
  obtain ⟨l', h1, h2⟩ := h.ren (E' := E') ren_id S hS
  exact ⟨l', renTs_same h1, h2⟩
end Tm
end Go.Proofs.YtlomecfhobehnaaGreatDoor
end
