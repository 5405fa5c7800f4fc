/- Contracts of lex.Reader's methods. -/
import Derived.Sort.Grow
import Derived.Test.YtlomecfhobehnaaGreatDoorMgLayoutBack0
import Derived.Test.YtlomecfhobehnaaGreatDoorMgLayoutBack1
import Derived.Test.YtlomecfhobehnaaGreatDoorMgLayoutBack2
section
/- Expressions in plain words: what tokens are read as, what is written, what it comes to. -/
namespace Go.Proofs.YtlomecfhobehnaaGreatDoor
set_option linter.unusedVariables false
set_option linter.unusedSimpArgs false
namespace Ex
abbrev Tok := List UInt8 × Nat
inductive X where
  | num (at_ n : Nat)
  | name (at_ : Nat) (s : List UInt8)
  | bin (at_ : Nat) (op : List UInt8) (l r : X)
def levels : Nat → List (List UInt8)
  | 0 => [[61, 61], [33, 61], [60], [62]]
  | 1 => [[43], [45], [124]]
  | 2 => [[42], [38]]
  | _ => []
inductive Out where
  | ok (x : X) (r : List Tok)
  | bad (e p : Nat)
inductive Cat where
  | lev (k : Nat)
  | loop (k : Nat) (x : X)
  | one
/-- what a number's text is: the number, or the error -/
abbrev NumOf := List UInt8 → Nat ⊕ Nat
def atOf (E : Nat) : List Tok → Nat
  | [] => E
  | t :: _ => t.2
/-- what a reader takes off tokens (E: where the text ends) -/
inductive Par (num : NumOf) (E : Nat) : Cat → Nat → List Tok → Out → Prop where
  | top {d T o} : Par num E .one d T o → Par num E (.lev 3) d T o
  | lev {k d T T' x o} : k < 3 → Par num E (.lev (k + 1)) d T (.ok x T') → Par num E (.loop k x) d T' o → Par num E (.lev k) d T o
  | levBad {k d T e p} : k < 3 → Par num E (.lev (k + 1)) d T (.bad e p) → Par num E (.lev k) d T (.bad e p)
  | done {k x d T} : (∀ t T', T = t :: T' → t.1 ∉ levels k) → Par num E (.loop k x) d T (.ok x T)
  | more {k x d t T T' y o} : t.1 ∈ levels k → Par num E (.lev (k + 1)) d T (.ok y T') → Par num E (.loop k (.bin t.2 t.1 x y)) d T' o → Par num E (.loop k x) d (t :: T) o
  | moreBad {k x d t T e p} : t.1 ∈ levels k → Par num E (.lev (k + 1)) d T (.bad e p) → Par num E (.loop k x) d (t :: T) (.bad e p)
  | paren {d t T u T' x} : t.1 = [40] → d < 8 → Par num E (.lev 0) (d + 1) T (.ok x (u :: T')) → u.1 = [41] → Par num E .one d (t :: T) (.ok x T')
  | parenNone {d t T T' x} : t.1 = [40] → d < 8 → Par num E (.lev 0) (d + 1) T (.ok x T') → (∀ u T'', T' = u :: T'' → u.1 ≠ [41]) → Par num E .one d (t :: T) (.bad 3 (atOf E T'))
  | parenBad {d t T e p} : t.1 = [40] → d < 8 → Par num E (.lev 0) (d + 1) T (.bad e p) → Par num E .one d (t :: T) (.bad e p)
  | deep {t T} : t.1 = [40] → Par num E .one 8 (t :: T) (.bad 4 t.2)
  | name {d t T c r} : t.1 = c :: r → Lex.letter c.toNat = true → t.1.length ≤ 12 → Par num E .one d (t :: T) (.ok (.name t.2 t.1) T)
  | nameLong {d t T c r} : t.1 = c :: r → Lex.letter c.toNat = true → 12 < t.1.length → Par num E .one d (t :: T) (.bad 4 t.2)
  | none {d} : Par num E .one d [] (.bad 3 E)
  | mark {d t T c r} : t.1 = c :: r → Lex.letter c.toNat = false → Lex.digit c.toNat = false → t.1 ≠ [40] → Par num E .one d (t :: T) (.bad 3 t.2)
  | num {d t T c r n} : t.1 = c :: r → Lex.digit c.toNat = true → num t.1 = .inl n → Par num E .one d (t :: T) (.ok (.num t.2 n) T)
  | numBad {d t T c r e} : t.1 = c :: r → Lex.digit c.toNat = true → num t.1 = .inr e → Par num E .one d (t :: T) (.bad e t.2)
/-- what is left stands at the end of what there was; of 'lev' and 'one' it is less -/
theorem Par.less {num : NumOf} {E : Nat} {c : Cat} {d : Nat} {T : List Tok} {o : Out} (h : Par num E c d T o) : ∀ x T', o = .ok x T' → T' <:+ T ∧ ((∀ k y, c ≠ .loop k y) → T'.length < T.length) := by
  induction h with
  | top _ ih => intro x T' e; exact ⟨(ih x T' e).1, fun _ => (ih x T' e).2 (by simp)⟩
  | lev _ _ _ ih1 ih2 =>
    intro x T' e
    have h1 := ih1 _ _ rfl
    have h2 := ih2 x T' e
    have h3 := h2.1.length_le
    have h4 := h1.2 (by simp)
    exact ⟨h2.1.trans h1.1, fun _ => by omega⟩
  | levBad => intro x T' e; cases e
  | done _ => intro x T' e; cases e; exact ⟨List.suffix_refl _, fun h => absurd rfl (h _ _)⟩
  | more _ _ _ ih1 ih2 =>
    intro x T' e
    have h1 := ih1 _ _ rfl
    have h2 := ih2 x T' e
    exact ⟨(h2.1.trans h1.1).trans (List.suffix_cons _ _), fun h => absurd rfl (h _ _)⟩
  | moreBad => intro x T' e; cases e
  | paren _ _ _ _ ih =>
    intro x T' e
    cases e
    have := (ih _ _ rfl).1
    have h2 := (List.suffix_cons _ _).trans this
    have h3 := this.length_le
    simp only [List.length_cons] at *
    exact ⟨h2.trans (List.suffix_cons _ _), fun _ => by omega⟩
  | parenNone => intro x T' e; cases e
  | parenBad => intro x T' e; cases e
  | deep => intro x T' e; cases e
  | name => intro x T' e; cases e; exact ⟨List.suffix_cons _ _, fun _ => by simp⟩
  | nameLong => intro x T' e; cases e
  | none => intro x T' e; cases e
  | mark => intro x T' e; cases e
  | num => intro x T' e; cases e; exact ⟨List.suffix_cons _ _, fun _ => by simp⟩
  | numBad => intro x T' e; cases e
theorem loop_total {num : NumOf} {E : Nat} {k d : Nat} (n : Nat) (hl : ∀ T : List Tok, T.length < n → (∀ t ∈ T, t.1 ≠ []) → ∃ o, Par num E (.lev (k + 1)) d T o) : ∀ (m : Nat) (T : List Tok) (x : X), T.length ≤ m → T.length ≤ n → (∀ t ∈ T, t.1 ≠ []) → ∃ o, Par num E (.loop k x) d T o
  | 0, T, x, h, _, _ => by
    obtain rfl := List.eq_nil_of_length_eq_zero (Nat.le_zero.1 h)
    exact ⟨_, .done (by intro t T' e; cases e)⟩
  | m + 1, T, x, h, hn, hne => by
    cases T with
    | nil => exact ⟨_, .done (by intro t T' e; cases e)⟩
    | cons t T =>
      rw [List.length_cons] at h hn
      by_cases ht : t.1 ∈ levels k
      · obtain ⟨o, ho⟩ := hl T (by omega) (fun u hu => hne u (by simp [hu]))
        cases o with
        | bad e p => exact ⟨_, .moreBad ht ho⟩
        | ok y T' =>
          have hs := (ho.less _ _ rfl).1
          have := hs.length_le
          obtain ⟨o2, h2⟩ := loop_total n hl m T' (.bin t.2 t.1 x y) (by omega) (by omega) (fun u hu => hne u (List.mem_cons_of_mem _ (hs.subset hu)))
          exact ⟨o2, .more ht ho h2⟩
      · exact ⟨_, .done (by intro u T' e; cases e; exact ht)⟩
theorem total {num : NumOf} {E : Nat} : ∀ (n : Nat) (T : List Tok) (d : Nat), T.length ≤ n → (∀ t ∈ T, t.1 ≠ []) → d ≤ 8 → ∀ k, k ≤ 3 → ∃ o, Par num E (.lev k) d T o
  | n, T, d, h, hne, hd => by
    have hone : ∃ o, Par num E .one d T o := by
      cases T with
      | nil => exact ⟨_, .none⟩
      | cons t T =>
        rw [List.length_cons] at h
        obtain ⟨c, r, hc⟩ : ∃ c r, t.1 = c :: r := by
          cases ht : t.1 with
          | nil => exact absurd ht (hne t (by simp))
          | cons c r => exact ⟨c, r, rfl⟩
        by_cases h1 : t.1 = [40]
        · by_cases h2 : d < 8
          · cases n with
            | zero => omega
            | succ n =>
              obtain ⟨o, ho⟩ := total n T (d + 1) (by omega) (fun u hu => hne u (by simp [hu])) (by omega) 0 (by omega)
              cases o with
              | bad e p => exact ⟨_, .parenBad h1 h2 ho⟩
              | ok x T' =>
                cases T' with
                | nil => exact ⟨_, .parenNone h1 h2 ho (by intro u T'' e; cases e)⟩
                | cons u T' =>
                  by_cases h3 : u.1 = [41]
                  · exact ⟨_, .paren h1 h2 ho h3⟩
                  · exact ⟨_, .parenNone h1 h2 ho (by intro u T'' e; cases e; exact h3)⟩
          · obtain rfl : d = 8 := by omega
            exact ⟨_, .deep h1⟩
        · by_cases h2 : Lex.letter c.toNat = true
          · by_cases h3 : t.1.length ≤ 12
            · exact ⟨_, .name hc h2 h3⟩
            · exact ⟨_, .nameLong hc h2 (by omega)⟩
          · by_cases h3 : Lex.digit c.toNat = true
            · cases hn : num t.1 with
              | inl m => exact ⟨_, .num hc h3 hn⟩
              | inr e => exact ⟨_, .numBad hc h3 hn⟩
            · exact ⟨_, .mark hc (by simpa using h2) (by simpa using h3) h1⟩
    intro k hk
    obtain ⟨j, hj⟩ : ∃ j, j = 3 - k := ⟨_, rfl⟩
    induction j generalizing k with
    | zero =>
      obtain rfl : k = 3 := by omega
      obtain ⟨o, ho⟩ := hone
      exact ⟨o, .top ho⟩
    | succ j ih =>
      obtain ⟨o, ho⟩ := ih (k + 1) (by omega) (by omega)
      cases o with
      | bad e p => exact ⟨_, .levBad (by omega) ho⟩
      | ok x T' =>
        have hlt := (ho.less _ _ rfl).2 (by simp)
        have hsuf := (ho.less _ _ rfl).1
        have hsub : ∀ T'' : List Tok, T''.length < T.length → (∀ t ∈ T'', t.1 ≠ []) → ∃ o, Par num E (.lev (k + 1)) d T'' o := by
          intro T'' h1 h2
          cases n with
          | zero => omega
          | succ n => exact total n T'' d (by omega) h2 hd (k + 1) (by omega)
        obtain ⟨o2, h2⟩ := loop_total T.length hsub T'.length T' x (Nat.le_refl _) (by omega) (fun u hu => hne u (hsuf.subset hu))
        exact ⟨o2, .lev (by omega) ho h2⟩
/-- how strongly an expression holds together -/
def opLevel (op : List UInt8) : Nat := if op ∈ levels 0 then 0 else if op ∈ levels 1 then 1 else if op ∈ levels 2 then 2 else 3
def hold : X → Nat
  | .bin _ op _ _ => opLevel op
  | _ => 3
/-- a number's digits -/
def decF : Nat → Nat → List UInt8
  | 0, _ => []
  | f + 1, n => if n < 10 then [UInt8.ofNat (48 + n)] else decF f (n / 10) ++ [UInt8.ofNat (48 + n % 10)]
abbrev Dec := Nat → List UInt8
/-- an expression as text -/
def pr (dec : Dec) : X → List UInt8
  | .num _ n => dec n
  | .name _ s => s
  | .bin _ op l r => (if hold l < opLevel op then 40 :: (pr dec l ++ [41]) else pr dec l) ++ 32 :: (op ++ 32 :: (if hold r < opLevel op + 1 then 40 :: (pr dec r ++ [41]) else pr dec r))
/-- .. and as tokens' texts -/
def pt (dec : Dec) : X → List (List UInt8)
  | .num _ n => [dec n]
  | .name _ s => [s]
  | .bin _ op l r => (if hold l < opLevel op then [40] :: (pt dec l ++ [[41]]) else pt dec l) ++ op :: (if hold r < opLevel op + 1 then [40] :: (pt dec r ++ [[41]]) else pt dec r)
/-- what may be written -/
def Fine (num : NumOf) (dec : Dec) : X → Prop
  | .num _ n => dec n ≠ [] ∧ (∀ c ∈ dec n, Lex.digit c.toNat = true) ∧ num (dec n) = .inl n
  | .name _ s => s ≠ [] ∧ s.length ≤ 12 ∧ (∀ c ∈ s, Lex.word c = true) ∧ ∃ c r, s = c :: r ∧ Lex.letter c.toNat = true
  | .bin _ op l r => opLevel op < 3 ∧ Fine num dec l ∧ Fine num dec r
/-- brackets within brackets that are written -/
def deepAt (dec : Dec) : X → Nat
  | .bin _ op l r => max (if hold l < opLevel op then deepAt dec l + 1 else deepAt dec l) (if hold r < opLevel op + 1 then deepAt dec r + 1 else deepAt dec r)
  | _ => 0
/-- the same but for where it stands -/
inductive Same : X → X → Prop where
  | num (a b n : Nat) : Same (.num a n) (.num b n)
  | name (a b : Nat) (s : List UInt8) : Same (.name a s) (.name b s)
  | bin (a b : Nat) (op : List UInt8) {l l' r r' : X} : Same l l' → Same r r' → Same (.bin a op l r) (.bin b op l' r')
theorem Same.pr {dec : Dec} {x y : X} (h : Same x y) : hold x = hold y ∧ Ex.pr dec x = Ex.pr dec y := by
  induction h with
  | num => exact ⟨rfl, rfl⟩
  | name => exact ⟨rfl, rfl⟩
  | bin a b op _ _ ih1 ih2 => exact ⟨rfl, by unfold Ex.pr; rw [ih1.1, ih1.2, ih2.1, ih2.2]⟩
/-- what comes behind a token: nothing, a blank, a bracket that shuts -/
def Sep (r : List UInt8) : Prop := r = [] ∨ ∃ c t, r = c :: t ∧ (c = 32 ∨ c = 41)
def texts (l : List UInt8) (i : Nat) : Option (List (List UInt8)) := (Lex.lexA l i).map (·.map Prod.fst)
theorem lexF_shift : ∀ (f : Nat) (l : List UInt8) (i j : Nat), (Lex.lexF f l i).map (·.map Prod.fst) = (Lex.lexF f l j).map (·.map Prod.fst) := by
  intro f
  induction f with
  | zero => intro l i j; rfl
  | succ f ih =>
    intro l i j
    cases l with
    | nil => rfl
    | cons c l =>
      unfold Lex.lexF
      split
      · exact ih _ _ _
      · split
        · exact ih _ _ _
        · split
          · rfl
          · have := ih ((c :: l).drop (Lex.next (c :: l))) (i + Lex.next (c :: l)) (j + Lex.next (c :: l))
            rw [Option.map_map, Option.map_map]
            have e : ∀ k : Nat, ((fun x : List Tok => x.map Prod.fst) ∘ fun T => ((c :: l).take (Lex.next (c :: l)), k) :: T) = (fun x => (c :: l).take (Lex.next (c :: l)) :: x) ∘ (fun x : List Tok => x.map Prod.fst) := fun k => rfl
            rw [e, e, ← Option.map_map, ← Option.map_map, this]
theorem texts_shift (l : List UInt8) (i j : Nat) : texts l i = texts l j := lexF_shift _ l i j
theorem texts_blank (l : List UInt8) (i : Nat) : texts (32 :: l) i = texts l 0 := by
  unfold texts
  rw [Lex.lexA_blank 32 l i (.inl rfl)]
  exact texts_shift l _ _
theorem texts_tok (x r : List UInt8) (i : Nat) (c : UInt8) (y : List UInt8) (hx : x = c :: y) (h1 : ¬ (c = 32 ∨ c = 10 ∨ c = 9)) (h2 : c ≠ 35) (h3 : Lex.next (x ++ r) = x.length) : texts (x ++ r) i = (texts r 0).map (x :: ·) := by
  subst hx
  unfold texts
  rw [List.cons_append] at h3 ⊢
  rw [Lex.lexA_tok c (y ++ r) i h1 h2 (by rw [h3]; simp), h3]
  rw [← List.cons_append, List.take_left, List.drop_left, Option.map_map]
  have := texts_shift r (i + (c :: y).length) 0
  unfold texts at this
  rw [← this, Option.map_map]
  rfl
theorem texts_word (x r : List UInt8) (i : Nat) (hx : x ≠ []) (hw : ∀ c ∈ x, Lex.word c = true) (hr : Sep r ∨ ∃ c t, r = c :: t ∧ Lex.word c = false) : texts (x ++ r) i = (texts r 0).map (x :: ·) := by
  obtain ⟨c, y, rfl⟩ : ∃ c y, x = c :: y := by cases x with | nil => exact absurd rfl hx | cons c y => exact ⟨c, y, rfl⟩
  have hc := hw c (by simp)
  have hne : ¬ (c = 32 ∨ c = 10 ∨ c = 9) ∧ c ≠ 35 := by
    constructor
    · rintro (rfl | rfl | rfl) <;> exact absurd hc (by decide)
    · rintro rfl; exact absurd hc (by decide)
  refine texts_tok (c :: y) r i c y rfl hne.1 hne.2 ?_
  rw [List.cons_append, Lex.next_cons, if_pos hc]
  have hr2 : r = [] ∨ ∃ c t, r = c :: t ∧ Lex.word c = false := by
    rcases hr with (h | ⟨c, t, h, h2⟩) | h
    · exact .inl h
    · exact .inr ⟨c, t, h, by rcases h2 with rfl | rfl <;> decide⟩
    · exact .inr h
  rcases hr2 with rfl | ⟨d, t, rfl, hd⟩
  · rw [List.append_nil]
    have ht : ∀ l : List UInt8, (∀ c ∈ l, Lex.word c = true) → l.takeWhile Lex.word = l := by
      intro l
      induction l with
      | nil => intro _; rfl
      | cons a l ih => intro h; rw [List.takeWhile_cons, if_pos (h a (by simp)), ih (fun c hc => h c (by simp [hc]))]
    rw [ht _ hw]
  · rw [← List.cons_append, Lex.takeWhile_stop Lex.word d t hd (c :: y) hw]
theorem mark_of (m : List UInt8) (c : UInt8) (y r : List UInt8) (i : Nat) (hm : m = c :: y) (hc : Lex.word c = false) (h1 : ¬ (c = 32 ∨ c = 10 ∨ c = 9)) (h2 : c ≠ 35) (hf : (Lex.marks.find? fun k => k.isPrefixOf (m ++ r)) = some m) : texts (m ++ r) i = (texts r 0).map (m :: ·) := by
  refine texts_tok m r i c y hm h1 h2 ?_
  subst hm
  rw [List.cons_append, Lex.next_cons, if_neg (by rw [hc]; decide)]
  unfold Lex.markLen
  rw [← List.cons_append, hf]
theorem texts_open (r : List UInt8) (i : Nat) : texts (40 :: r) i = (texts r 0).map ([40] :: ·) := mark_of [40] 40 [] r i rfl (by decide) (by decide) (by decide) rfl
theorem texts_shut (r : List UInt8) (i : Nat) : texts (41 :: r) i = (texts r 0).map ([41] :: ·) := mark_of [41] 41 [] r i rfl (by decide) (by decide) (by decide) rfl
theorem texts_star (r : List UInt8) (i : Nat) : texts (42 :: r) i = (texts r 0).map ([42] :: ·) := mark_of [42] 42 [] r i rfl (by decide) (by decide) (by decide) rfl
theorem level_mark (k : Nat) : ∀ m ∈ levels k, m ∈ Lex.marks ∧ opLevel m = k ∧ k < 3 := by
  intro m hm
  match k, hm with
  | 0, hm => exact (by decide : ∀ m ∈ levels 0, m ∈ Lex.marks ∧ opLevel m = 0 ∧ 0 < 3) m hm
  | 1, hm => exact (by decide : ∀ m ∈ levels 1, m ∈ Lex.marks ∧ opLevel m = 1 ∧ 1 < 3) m hm
  | 2, hm => exact (by decide : ∀ m ∈ levels 2, m ∈ Lex.marks ∧ opLevel m = 2 ∧ 2 < 3) m hm
  | n + 3, hm => exact absurd hm (by simp [levels])
theorem level_of (op : List UInt8) (h : opLevel op < 3) : op ∈ levels (opLevel op) := by
  unfold opLevel at *
  by_cases h0 : op ∈ levels 0
  · rw [if_pos h0]; exact h0
  · rw [if_neg h0] at h ⊢
    by_cases h1 : op ∈ levels 1
    · rw [if_pos h1]; exact h1
    · rw [if_neg h1] at h ⊢
      by_cases h2 : op ∈ levels 2
      · rw [if_pos h2]; exact h2
      · rw [if_neg h2] at h; omega
theorem texts_op (op r : List UInt8) (i : Nat) (h : opLevel op < 3) : texts (op ++ 32 :: r) i = (texts r 0).map (op :: ·) := by
  have hm := (level_mark _ op (level_of op h)).1
  obtain ⟨c, l, h1, h2, h3, h4⟩ := Lex.mark_head op hm
  rw [mark_of op c l (32 :: r) i h1 h2 h3 h4 (Lex.mark_again op hm 32 r (.inl rfl)), texts_blank]
theorem digit_word (c : UInt8) (h : Lex.digit c.toNat = true) : Lex.word c = true := by unfold Lex.word; rw [h, Bool.or_true]
/-- WHAT IS WRITTEN IS CUT into its tokens -/
theorem texts_pr {num : NumOf} {dec : Dec} : ∀ (x : X), Fine num dec x → ∀ (r : List UInt8) (i : Nat), Sep r → texts (pr dec x ++ r) i = (texts r 0).map (pt dec x ++ ·)
  | .num _ n, h, r, i, hr => by
    unfold pr pt
    exact texts_word _ r i h.1 (fun c hc => digit_word c (h.2.1 c hc)) (.inl hr)
  | .name _ s, h, r, i, hr => by
    unfold pr pt
    exact texts_word _ r i h.1 h.2.2.1 (.inl hr)
  | .bin _ op l r', h, r, i, hr => by
    obtain ⟨h1, h2, h3⟩ := h
    have part : ∀ (x : X) (b : Bool), Fine num dec x → (∀ (r : List UInt8) (i : Nat), Sep r → texts (pr dec x ++ r) i = (texts r 0).map (pt dec x ++ ·)) → ∀ (r : List UInt8) (i : Nat), Sep r →
        texts ((if b then 40 :: (pr dec x ++ [41]) else pr dec x) ++ r) i = (texts r 0).map ((if b then [40] :: (pt dec x ++ [[41]]) else pt dec x) ++ ·) := by
      intro x b hx ih r i hr
      cases b with
      | false => exact ih r i hr
      | true =>
        simp only [if_true]
        rw [List.cons_append, texts_open, List.append_assoc, List.singleton_append, ih _ _ (.inr ⟨41, _, rfl, .inr rfl⟩), texts_shut, Option.map_map, Option.map_map]
        congr 1
        funext z
        simp
    have pl := part l (decide (hold l < opLevel op)) h2 (texts_pr l h2)
    have pr' := part r' (decide (hold r' < opLevel op + 1)) h3 (texts_pr r' h3)
    simp only [decide_eq_true_eq] at pl pr'
    unfold pr pt
    rw [List.append_assoc, List.cons_append, pl _ _ (.inr ⟨32, _, rfl, .inl rfl⟩), texts_blank, List.append_assoc, List.cons_append, texts_op _ _ _ h1, pr' _ _ hr, Option.map_map, Option.map_map]
    congr 1
    funext z
    simp
end Ex
end Go.Proofs.YtlomecfhobehnaaGreatDoor
end
section
/- A world that has but grown: nothing of what was there has turned. No program in sight. -/
namespace Go.Proofs.YtlomecfhobehnaaGreatDoor
open Go.RowKit
set_option linter.unusedVariables false
set_option linter.unusedSimpArgs false
structure Grew (w w' : World) : Prop where
  blk : w.grownBy w' none
  drawn : w.drawn ≤ w'.drawn
theorem Grew.refl (w : World) : Grew w w := ⟨grown_refl w none, Nat.le_refl _⟩
theorem Grew.trans {a b c : World} (h : Grew a b) (h' : Grew b c) : Grew a c := ⟨h.blk.trans h'.blk, Nat.le_trans h.drawn h'.drawn⟩
theorem Grew.drew {a b : World} (h : Grew a b) : Grew a b.drew := ⟨grown_drew h.blk, Nat.le_trans h.drawn (Nat.le_succ _)⟩
theorem Grew.drewN {a b : World} (h : Grew a b) (n : Nat) : Grew a (b.drewN n) := ⟨grown_drewN h.blk n, Nat.le_trans h.drawn (Nat.le_add_right _ _)⟩
theorem Grew.alloc {a b : World} (h : Grew a b) (o : Obj) : Grew a (b.alloc o) := ⟨grown_alloc h.blk o, h.drawn⟩
theorem Grew.set {a b : World} (h : Grew a b) (p : Addr) (hp : a.heap.size ≤ p.block) (v : Value) : Grew a (b.setCell p v) := by
  refine ⟨⟨h.blk.os, h.blk.tape, h.blk.output, ?_, ?_⟩, h.drawn⟩
  · have := h.blk.size
    simpa [World.setCell] using this
  · intro k hk hne
    have e : (b.setCell p v).heap[k]? = b.heap[k]? := by
      simp only [World.setCell, Array.getElem?_modify]
      rw [if_neg (by omega)]
    rw [e]
    exact h.blk.block k hk hne
theorem Grew.heap {a b : World} (h : Grew a b) (k : Nat) (hk : k < a.heap.size) : b.heap[k]? = a.heap[k]? := h.blk.block k hk (by simp)
theorem Grew.row {a b : World} (h : Grew a b) {g off : Nat} {e : TypeId} {xs : List Value} (hr : RowAt a g off e xs) : RowAt b g off e xs := hr.of_heap (h.heap g hr.lt)
theorem Grew.below {a b : World} (h : Grew a b) : Below a.heap.size a b := ⟨h.blk.os, h.blk.tape, h.blk.output, h.blk.size, fun k hk => h.heap k hk⟩
theorem Grew.grow {w w' : World} (h : Grew w w') : ∃ q os', w' = Go.Sort.grow (w.drewN q) os' := by
  refine ⟨w'.drawn - w.drawn, w'.heap.extract w.heap.size w'.heap.size, ?_⟩
  have h1 := h.blk.os; have h2 := h.blk.tape; have h3 := h.blk.output; have h4 := h.blk.size; have h5 := h.drawn
  have h6 : w'.heap = w.heap ++ w'.heap.extract w.heap.size w'.heap.size := by
    apply Array.ext_getElem?
    intro k
    by_cases hk : k < w.heap.size
    · rw [Array.getElem?_append_left hk]
      exact h.heap k hk
    · rw [Array.getElem?_append_right (by omega), Array.getElem?_extract]
      by_cases hk2 : k < w'.heap.size
      · rw [if_pos (by omega)]
        congr 1; omega
      · rw [if_neg (by omega), Array.getElem?_eq_none (by omega)]
  obtain ⟨hp, tp, dr, os, out⟩ := w
  obtain ⟨hp', tp', dr', os', out'⟩ := w'
  simp only [Go.Sort.grow, World.drewN] at *
  subst h1 h2 h3
  simp only [World.mk.injEq, and_true, true_and]
  exact ⟨h6, by omega⟩
end Go.Proofs.YtlomecfhobehnaaGreatDoor
end
section
/- Contracts of lex.Reader's methods. -/
namespace Go.Proofs.YtlomecfhobehnaaGreatDoor
open Go.RowKit
set_option linter.unusedVariables false
set_option linter.unusedSimpArgs false
namespace Rd
abbrev Tok := List UInt8 × Nat
/-- tokens that lie from a on, in a row of an older block than rb -/
def TokAt (w : World) (rb : Nat) (a : Option Addr) (R : List Tok) : Prop := R = [] ∨ ∃ g off, a = some ⟨g, off, none⟩ ∧ g < rb ∧ ∀ j, j < R.length → w.cell? ⟨g, off + j * 2, none⟩ = some (.string (bstr (R.getD j ([], 0)).1)) ∧ w.cell? ⟨g, off + j * 2 + 1, none⟩ = some (.int .i64 ((R.getD j ([], 0)).2 : Nat))
/-- a reader: what is left, and where the text ends -/
def Rdr (w : World) (rb : Nat) (R : List Tok) (E : Nat) : Prop := ∃ a c, RowAt w rb 0 157 [.slice a R.length c, .int .i64 (E : Nat)] ∧ R.length ≤ c ∧ TokAt w rb a R
def textOf : List Tok → List UInt8
  | [] => []
  | t :: _ => t.1
theorem grownBy_trans {a b c : World} {r : Option Nat} (h : a.grownBy b r) (k : b.grownBy c r) : a.grownBy c r :=
  ⟨k.os.trans h.os, k.tape.trans h.tape, k.output.trans h.output, Nat.le_trans h.size k.size, fun i hi hne => (k.block i (Nat.lt_of_lt_of_le hi h.size) hne).trans (h.block i hi hne)⟩
theorem TokAt.grown {w w' : World} {rb : Nat} {a : Option Addr} {R : List Tok} (h : TokAt w rb a R) (hg : w.grownBy w' (some rb)) (hrb : rb < w.heap.size) : TokAt w' rb a R := by
  rcases h with h | ⟨g, off, h1, h2, h3⟩
  · exact .inl h
  · refine .inr ⟨g, off, h1, h2, fun j hj => ?_⟩
    have hb : w'.heap[g]? = w.heap[g]? := hg.block g (Nat.lt_trans h2 hrb) (fun e => by injection e with e; omega)
    exact ⟨(World.cell?_of_block (a := ⟨g, off + j * 2, none⟩) hb).trans (h3 j hj).1, (World.cell?_of_block (a := ⟨g, off + j * 2 + 1, none⟩) hb).trans (h3 j hj).2⟩
theorem Rdr.lt {w : World} {rb : Nat} {R : List Tok} {E : Nat} (h : Rdr w rb R E) : rb < w.heap.size := by
  obtain ⟨a, c, h, _⟩ := h
  exact h.lt
/-- what is kept by a world that but has more blocks -/
theorem Rdr.below {w w' : World} {rb : Nat} {R : List Tok} {E : Nat} (h : Rdr w rb R E) (hb : Below w.heap.size w w') : Rdr w' rb R E := by
  have hlt := h.lt
  obtain ⟨a, c, h1, h2, h3⟩ := h
  refine ⟨a, c, h1.below hb hlt, h2, ?_⟩
  rcases h3 with h | ⟨g, off, e1, e2, e3⟩
  · exact .inl h
  · refine .inr ⟨g, off, e1, e2, fun j hj => ?_⟩
    exact ⟨(hb.cell (p := ⟨g, off + j * 2, none⟩) (Nat.lt_trans e2 hlt)).trans (e3 j hj).1, (hb.cell (p := ⟨g, off + j * 2 + 1, none⟩) (Nat.lt_trans e2 hlt)).trans (e3 j hj).2⟩
theorem below_grown {w w' : World} (h : Below w.heap.size w w') (r : Option Nat) : w.grownBy w' r := ⟨h.os, h.tape, h.output, h.size, fun k hk _ => h.block k hk⟩
end Rd
open Rd
set_option maxRecDepth 100000 in
theorem At_any (rb : Nat) (R : List Tok) (E : Nat) (w : World) (h : Rdr w rb R E) :
    Calls Tryz.prog 52 #[.pointer (some ⟨rb, 0, none⟩)] w fun e w' => e = .returned (.int .i64 (Ex.atOf E R : Nat)) ∧ w' = w := by
  obtain ⟨a, c, h1, h2, h3⟩ := h
  have c0 := h1.cell0 0 (by simp)
  have c1 := h1.cell0 1 (by simp)
  simp only [List.getElem_cons_zero, List.getElem_cons_succ] at c0 c1
  cases R with
  | nil =>
    rw [List.length_nil] at c0
    go_enter Tryz.func52, Tryz.ntmps52
    go_wp2_with fail
    go_ret
    exact ⟨rfl, rfl⟩
  | cons t R =>
    rcases h3 with h | ⟨g, off, rfl, e2, e3⟩
    · cases h
    have ct := (e3 0 (by simp)).2
    simp only [List.getD_cons_zero, Nat.zero_mul, Nat.add_zero] at ct
    have hl : (((t :: R).length : Int) == 0) = false := by rw [beq_eq_false_iff_ne, List.length_cons]; omega
    have hln : ((t :: R).length == 0) = false := by rw [beq_eq_false_iff_ne, List.length_cons]; omega
    have hpos : (0 : Int) < ((t :: R).length : Int) := by rw [List.length_cons]; omega
    have hposn : 0 < (t :: R).length := by rw [List.length_cons]; omega
    obtain ⟨n, hn⟩ : ∃ n, n = (t :: R).length := ⟨_, rfl⟩
    rw [← hn] at c0 hl hln hpos hposn
    clear hn h1 h2 e3
    go_enter Tryz.func52, Tryz.ntmps52
    go_wp2_with fail
    go_ret
    exact ⟨rfl, rfl⟩
set_option maxRecDepth 100000 in
theorem Text_any (rb : Nat) (R : List Tok) (E : Nat) (w : World) (h : Rdr w rb R E) :
    Calls Tryz.prog 50 #[.pointer (some ⟨rb, 0, none⟩)] w fun e w' => e = .returned (.string (bstr (textOf R))) ∧ w' = w := by
  obtain ⟨a, c, h1, h2, h3⟩ := h
  have c0 := h1.cell0 0 (by simp)
  simp only [List.getElem_cons_zero] at c0
  cases R with
  | nil =>
    rw [List.length_nil] at c0
    go_enter Tryz.func50, Tryz.ntmps50
    go_wp2_with fail
    go_ret
    exact ⟨rfl, rfl⟩
  | cons t R =>
    rcases h3 with h | ⟨g, off, rfl, e2, e3⟩
    · cases h
    have ct := (e3 0 (by simp)).1
    simp only [List.getD_cons_zero, Nat.zero_mul, Nat.add_zero] at ct
    have hl : (((t :: R).length : Int) == 0) = false := by rw [beq_eq_false_iff_ne, List.length_cons]; omega
    have hln : ((t :: R).length == 0) = false := by rw [beq_eq_false_iff_ne, List.length_cons]; omega
    have hpos : (0 : Int) < ((t :: R).length : Int) := by rw [List.length_cons]; omega
    have hposn : 0 < (t :: R).length := by rw [List.length_cons]; omega
    obtain ⟨n, hn⟩ : ∃ n, n = (t :: R).length := ⟨_, rfl⟩
    rw [← hn] at c0 hl hln hpos hposn
    clear hn h1 h2 e3
    go_enter Tryz.func50, Tryz.ntmps50
    go_wp2_with fail
    go_ret
    exact ⟨rfl, rfl⟩
/-- what is thrown -/
def thrown (g : Nat) : Ending := .panicked [{ v := .iface 159 (.agg #[.iface 120 (.pointer (some ⟨g, 0, none⟩))]), recovered := false }]
set_option maxRecDepth 100000 in
theorem Fail_any (rb : Nat) (e p : Nat) (w : World) :
    Calls Tryz.prog 51 #[.pointer (some ⟨rb, 0, none⟩), .int .i64 (e : Nat), .int .i64 (p : Nat)] w fun en w' => en = thrown w.heap.size ∧ RowAt w' w.heap.size 0 122 [.int .i64 (e : Nat), .int .i64 (p : Nat)] ∧ Below w.heap.size w w' := by
  have hrow := RowAt.new w 122 #[.int .i64 (e : Nat), .int .i64 (p : Nat)]
  have hb := (Below.refl w.heap.size w).alloc (Nat.le_refl _) (.cells #[.int .i64 (e : Nat), .int .i64 (p : Nat)] 122)
  go_enter Tryz.func51, Tryz.ntmps51
  go_wp2_with fail
  exact ⟨rfl, rfl, hrow, hb⟩
/-- one token less -/
theorem Rd.Rdr.next {w : World} {rb : Nat} {t : Tok} {R : List Tok} {E : Nat} (h : Rdr w rb (t :: R) E) : ∃ g off c, w.cell? ⟨rb, 0, none⟩ = some (.slice (some ⟨g, off, none⟩) (R.length + 1) c) ∧ w.frozen? ⟨rb, 0, none⟩ = false ∧ R.length + 1 ≤ c ∧
    (∀ a', (R.length + 1 < c ∨ R = [] → a' = some ⟨g, off + 2, none⟩ ∨ R = []) → (c = R.length + 1 → R = [] ∨ a' = some ⟨g, off + 2, none⟩) → Rdr (w.setCell ⟨rb, 0, none⟩ (.slice a' R.length (c - 1))) rb R E ∧ w.grownBy (w.setCell ⟨rb, 0, none⟩ (.slice a' R.length (c - 1))) (some rb)) := by
  have hrb := h.lt
  obtain ⟨a, c, h1, h2, h3⟩ := h
  rw [List.length_cons] at h1 h2
  rcases h3 with h | ⟨g, off, rfl, e2, e3⟩
  · cases h
  have c0 := h1.cell0 0 (by simp)
  simp only [List.getElem_cons_zero] at c0
  refine ⟨g, off, c, c0, h1.frozen 0 (by simp), h2, fun a' ha hc => ?_⟩
  have hg := grown_set (grown_refl w (some rb)) (p := ⟨rb, 0, none⟩) rfl (.slice a' R.length (c - 1))
  refine ⟨⟨a', c - 1, ?_, by omega, ?_⟩, hg⟩
  · have := h1.set0 0 (by simp) (.slice a' R.length (c - 1))
    exact this
  · by_cases hR : R = []
    · exact .inl hR
    · have ha2 : a' = some ⟨g, off + 2, none⟩ := by
        rcases Nat.lt_or_ge (R.length + 1) c with hlt | hge
        · rcases ha (.inl hlt) with h | h
          · exact h
          · exact absurd h hR
        · rcases hc (by omega) with h | h
          · exact absurd h hR
          · exact h
      refine .inr ⟨g, off + 2, ha2, e2, fun j hj => ?_⟩
      have hb : (w.setCell ⟨rb, 0, none⟩ (.slice a' R.length (c - 1))).heap[g]? = w.heap[g]? := hg.block g (by omega) (fun e => by injection e with e; omega)
      have h9 := e3 (j + 1) (by rw [List.length_cons]; omega)
      rw [List.getD_cons_succ] at h9
      have e1 : off + (j + 1) * 2 = off + 2 + j * 2 := by omega
      rw [e1] at h9
      exact ⟨(World.cell?_of_block (a := ⟨g, off + 2 + j * 2, none⟩) hb).trans h9.1, (World.cell?_of_block (a := ⟨g, off + 2 + j * 2 + 1, none⟩) hb).trans h9.2⟩
set_option maxRecDepth 100000 in
theorem Take_yes (rb : Nat) (t : Tok) (R : List Tok) (E : Nat) (w : World) (h : Rdr w rb (t :: R) E) (ht : t.1 ≠ []) :
    Calls Tryz.prog 85 #[.pointer (some ⟨rb, 0, none⟩), .string (bstr t.1)] w fun e w' => e = .returned (.bool true) ∧ Rdr w' rb R E ∧ w.grownBy w' (some rb) := by
  have HT := Lib.hid (Text_any rb (t :: R) E w h)
  have hemp : (t.1 == []) = false := by rw [beq_eq_false_iff_ne]; exact ht
  have hemp2 : t.1.isEmpty = false := by cases h9 : t.1 with | nil => exact absurd h9 ht | cons a b => rfl
  have hto : textOf (t :: R) = t.1 := rfl
  rw [hto] at HT
  obtain ⟨g, off, c, c0, hf, hc, hK⟩ := h.next
  have HK := Lib.hid hK
  generalize t.1 = s at *
  obtain ⟨n, hn⟩ : ∃ n, n = R.length := ⟨_, rfl⟩
  rw [← hn] at HK c0 hc
  have HN := Lib.hid hn
  have h1c : (1 : Int) ≤ (n : Int) + 1 := by omega
  have h1n : 1 ≤ n + 1 := by omega
  have hnc : (n : Int) + 1 ≤ (c : Int) := by omega
  clear hK h ht hn hto
  by_cases hcap : c = 1
  · subst hcap
    have hR : R = [] := List.eq_nil_of_length_eq_zero (by have := HN.out; omega)
    have hn0 : n = 0 := by omega
    have hK1 := HK.out (some ⟨g, off, none⟩) (fun _ => .inr hR) (fun _ => .inl hR)
    rw [hn0] at hK1
    clear hR hn0
    go_enter Tryz.func85, Tryz.ntmps85
    go_wp2_with fail
    refine HT.out.mono ?_
    rintro e w1 ⟨rfl, rfl⟩
    go_wp2_with fail
    go_ret
    exact ⟨rfl, hK1⟩
  · have hcap2 : ¬ 1 = c := fun e => hcap e.symm
    have HK1 := Lib.hid (HK.out (some ⟨g, off + 2, none⟩) (fun _ => .inl rfl) (fun _ => .inr rfl))
    go_enter Tryz.func85, Tryz.ntmps85
    go_wp2_with fail
    refine HT.out.mono ?_
    rintro e w1 ⟨rfl, rfl⟩
    go_wp2_with fail
    go_ret
    exact ⟨rfl, HK1.out⟩
set_option maxRecDepth 100000 in
theorem Take_no (rb : Nat) (R : List Tok) (E : Nat) (s : List UInt8) (w : World) (h : Rdr w rb R E) (hs : s ≠ []) (hno : textOf R ≠ s) :
    Calls Tryz.prog 85 #[.pointer (some ⟨rb, 0, none⟩), .string (bstr s)] w fun e w' => e = .returned (.bool false) ∧ w' = w := by
  have HT := Lib.hid (Text_any rb R E w h)
  generalize textOf R = x at *
  have hne : (x == s) = false := by rw [beq_eq_false_iff_ne]; exact hno
  have hne2 : (x != s) = true := by rw [bne_iff_ne]; exact hno
  clear hno h
  go_enter Tryz.func85, Tryz.ntmps85
  go_wp2_with fail
  refine HT.out.mono ?_
  rintro e w1 ⟨rfl, rfl⟩
  go_wp2_with fail
  go_ret
  exact ⟨rfl, rfl⟩
set_option maxRecDepth 100000 in
theorem Pass_any (rb : Nat) (t : Tok) (R : List Tok) (E : Nat) (w : World) (h : Rdr w rb (t :: R) E) (ht : t.1 ≠ []) :
    Calls Tryz.prog 88 #[.pointer (some ⟨rb, 0, none⟩)] w fun e w' => e = .returned (.string (bstr t.1)) ∧ Rdr w' rb R E ∧ w.grownBy w' (some rb) := by
  have HT := Lib.hid (Text_any rb (t :: R) E w h)
  have hemp : (t.1 == []) = false := by rw [beq_eq_false_iff_ne]; exact ht
  have hemp2 : t.1.isEmpty = false := by cases h9 : t.1 with | nil => exact absurd h9 ht | cons a b => rfl
  have hto : textOf (t :: R) = t.1 := rfl
  rw [hto] at HT
  obtain ⟨g, off, c, c0, hf, hc, hK⟩ := h.next
  have HK := Lib.hid hK
  generalize t.1 = s at *
  obtain ⟨n, hn⟩ : ∃ n, n = R.length := ⟨_, rfl⟩
  rw [← hn] at HK c0 hc
  have HN := Lib.hid hn
  have h1c : (1 : Int) ≤ (n : Int) + 1 := by omega
  have h1n : 1 ≤ n + 1 := by omega
  have hnc : (n : Int) + 1 ≤ (c : Int) := by omega
  clear hK h ht hn hto
  by_cases hcap : c = 1
  · subst hcap
    have hR : R = [] := List.eq_nil_of_length_eq_zero (by have := HN.out; omega)
    have hn0 : n = 0 := by omega
    have hK1 := HK.out (some ⟨g, off, none⟩) (fun _ => .inr hR) (fun _ => .inl hR)
    rw [hn0] at hK1
    clear hR hn0
    go_enter Tryz.func88, Tryz.ntmps88
    go_wp2_with fail
    refine HT.out.mono ?_
    rintro e w1 ⟨rfl, rfl⟩
    go_wp2_with fail
    go_ret
    exact ⟨rfl, hK1⟩
  · have hcap2 : ¬ 1 = c := fun e => hcap e.symm
    have HK1 := Lib.hid (HK.out (some ⟨g, off + 2, none⟩) (fun _ => .inl rfl) (fun _ => .inr rfl))
    go_enter Tryz.func88, Tryz.ntmps88
    go_wp2_with fail
    refine HT.out.mono ?_
    rintro e w1 ⟨rfl, rfl⟩
    go_wp2_with fail
    go_ret
    exact ⟨rfl, HK1.out⟩
set_option maxRecDepth 100000 in
theorem Must_yes (rb : Nat) (t : Tok) (R : List Tok) (E : Nat) (w : World) (h : Rdr w rb (t :: R) E) (ht : t.1 ≠ []) :
    Calls Tryz.prog 53 #[.pointer (some ⟨rb, 0, none⟩), .string (bstr t.1)] w fun e w' => e = .returned (.tuple #[]) ∧ Rdr w' rb R E ∧ w.grownBy w' (some rb) := by
  have HT := Lib.hid (Take_yes rb t R E w h ht)
  generalize t.1 = s at *
  clear h
  go_enter Tryz.func53, Tryz.ntmps53
  go_wp2_with fail
  refine HT.out.mono ?_
  rintro e w1 ⟨rfl, h1, h2⟩
  go_wp2_with fail
  go_end0
  exact ⟨rfl, h1, h2⟩
set_option maxRecDepth 100000 in
theorem Must_no (rb : Nat) (R : List Tok) (E : Nat) (s : List UInt8) (w : World) (h : Rdr w rb R E) (hs : s ≠ []) (hno : textOf R ≠ s) :
    Calls Tryz.prog 53 #[.pointer (some ⟨rb, 0, none⟩), .string (bstr s)] w fun en w' => en = thrown w.heap.size ∧ RowAt w' w.heap.size 0 122 [.int .i64 3, .int .i64 (Ex.atOf E R : Nat)] ∧ Below w.heap.size w w' := by
  have HT := Lib.hid (Take_no rb R E s w h hs hno)
  have HA := Lib.hid (At_any rb R E w h)
  generalize Ex.atOf E R = p at *
  have hf := Fail_any rb 3 p w
  unfold thrown at hf ⊢
  have HF := Lib.hid hf
  clear h hno hf
  go_enter Tryz.func53, Tryz.ntmps53
  go_wp2_with fail
  refine HT.out.mono ?_
  rintro e w1 ⟨rfl, rfl⟩
  go_wp2_with fail
  refine HA.out.mono ?_
  rintro e w2 ⟨rfl, rfl⟩
  go_wp2_with fail
  refine HF.out.mono ?_
  rintro e w3 ⟨rfl, h1, h2⟩
  go_wp2_with fail
  exact ⟨rfl, rfl, h1, h2⟩
end Go.Proofs.YtlomecfhobehnaaGreatDoor
end
