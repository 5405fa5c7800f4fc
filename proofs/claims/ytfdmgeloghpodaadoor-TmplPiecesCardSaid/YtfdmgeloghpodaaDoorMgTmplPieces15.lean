/- What is written is read: an expression's own tokens, and with brackets about it. -/
import Derived.Test.YtfdmgeloghpodaaDoorMgTmplPieces5
section
/- What is written is read: an expression's own tokens, and with brackets about it. -/
namespace Go.Proofs.YtfdmgeloghpodaaDoor
set_option linter.unusedVariables false
set_option linter.unusedSimpArgs false
namespace Ex
variable {num : NumOf} {dec : Dec} {E : Nat}
/-- no op of level k, or one that holds more strongly, comes next -/
def Stop (k : Nat) (R : List Tok) : Prop := ∀ t T', R = t :: T' → ∀ j, k ≤ j → t.1 ∉ levels j
theorem Stop.mono {k j : Nat} {R : List Tok} (h : Stop k R) (hj : k ≤ j) : Stop j R := fun t T' e i hi => h t T' e i (by omega)
theorem Stop.done {k : Nat} {R : List Tok} (h : Stop k R) (x : X) (d : Nat) : Par num E (.loop k x) d R (.ok x R) := .done fun t T' e => h t T' e k (Nat.le_refl _)
theorem stop_nil (k : Nat) : Stop k [] := fun t T' e => by cases e
theorem stop_shut (k : Nat) (u : Tok) (R : List Tok) (h : u.1 = [41]) : Stop k (u :: R) := by
  intro t T' e j _ hm
  cases e
  rw [h] at hm
  exact absurd (level_mark j _ hm).1 (by
    intro _
    have := (level_mark j _ hm).2.1
    have h2 := (level_mark j _ hm).2.2
    have h3 : opLevel [41] = 3 := by decide
    omega)
theorem stop_op (k : Nat) (u : Tok) (R : List Tok) (h : opLevel u.1 < k) : Stop k (u :: R) := by
  intro t T' e j hj hm
  cases e
  have := (level_mark j _ hm).2.1
  omega
theorem lift {T R : List Tok} {y : X} {d : Nat} : ∀ (n k j : Nat), j = k + n → j ≤ 2 → Stop (k + 1) R → (∀ o, Par num E (.loop j y) d R o → Par num E (.lev j) d T o) → ∀ o, Par num E (.loop k y) d R o → Par num E (.lev k) d T o
  | 0, k, j, hj, _, _, h, o, ho => by subst hj; exact h o ho
  | n + 1, k, j, hj, h2, hs, h, o, ho => by
    have := lift n (k + 1) j (by omega) h2 (hs.mono (by omega)) h (.ok y R) (hs.done y d)
    exact .lev (by omega) this ho
theorem lift3 {T R : List Tok} {y : X} {d k : Nat} (hk : k ≤ 2) (hs : Stop (k + 1) R) (h : Par num E .one d T (.ok y R)) : ∀ o, Par num E (.loop k y) d R o → Par num E (.lev k) d T o :=
  lift (2 - k) k 2 (by omega) (by omega) hs fun o ho => .lev (by omega) (.top h) ho
theorem liftBad {T : List Tok} {d e p : Nat} : ∀ (n k j : Nat), j = k + n → j ≤ 3 → Par num E (.lev j) d T (.bad e p) → Par num E (.lev k) d T (.bad e p)
  | 0, k, j, hj, _, h => by subst hj; exact h
  | n + 1, k, j, hj, h2, h => .levBad (by omega) (liftBad n (k + 1) j (by omega) h2 h)
/-- it is read back: in a row with what comes behind -/
def Bk (num : NumOf) (dec : Dec) (E : Nat) (x : X) : Prop := ∀ (d : Nat) (S R : List Tok) (k : Nat), d + deepAt dec x ≤ 8 → S.map Prod.fst = pt dec x → k ≤ 2 → k ≤ hold x → Stop (k + 1) R →
  ∃ y, Same x y ∧ ∀ o, Par num E (.loop k y) d R o → Par num E (.lev k) d (S ++ R) o
def Bk3 (num : NumOf) (dec : Dec) (E : Nat) (x : X) : Prop := ∀ (d : Nat) (S R : List Tok), S.map Prod.fst = pt dec x → 3 ≤ hold x → ∃ y, Same x y ∧ Par num E .one d (S ++ R) (.ok y R)
theorem paren_back {x : X} (h : Bk num dec E x) {d : Nat} {S R : List Tok} (hd : d + (deepAt dec x + 1) ≤ 8) (hS : S.map Prod.fst = [40] :: (pt dec x ++ [[41]])) : ∃ y, Same x y ∧ Par num E .one d (S ++ R) (.ok y R) := by
  obtain ⟨a, S1, rfl, ha, h1⟩ := List.map_eq_cons_iff.1 hS
  obtain ⟨S2, S3, rfl, h2, h3⟩ := List.map_eq_append_iff.1 h1
  obtain ⟨b, S4, rfl, hb, h4⟩ := List.map_eq_cons_iff.1 h3
  obtain rfl := List.map_eq_nil_iff.1 h4
  obtain ⟨y, hy, hp⟩ := h (d + 1) S2 (b :: R) 0 (by omega) h2 (by omega) (by omega) (stop_shut 1 b R hb)
  refine ⟨y, hy, ?_⟩
  have := hp _ ((stop_shut 0 b R hb).done y (d + 1))
  have e : (a :: (S2 ++ [b])) ++ R = a :: (S2 ++ b :: R) := by simp
  rw [e]
  exact .paren ha (by omega) this hb
theorem part_back {x : X} (h : Bk num dec E x) (h3 : Bk3 num dec E x) {d least : Nat} {S R : List Tok} (hd : d + (if hold x < least then deepAt dec x + 1 else deepAt dec x) ≤ 8) (hS : S.map Prod.fst = if hold x < least then [40] :: (pt dec x ++ [[41]]) else pt dec x) (hl : least ≤ 3) :
    (∀ k, k ≤ 2 → k ≤ least → Stop (k + 1) R → ∃ y, Same x y ∧ ∀ o, Par num E (.loop k y) d R o → Par num E (.lev k) d (S ++ R) o) ∧ (∀ k, k ≤ 3 → k ≤ least → Stop k R → ∃ y, Same x y ∧ Par num E (.lev k) d (S ++ R) (.ok y R)) := by
  have key : ∀ k, k ≤ 2 → k ≤ least → Stop (k + 1) R → ∃ y, Same x y ∧ ∀ o, Par num E (.loop k y) d R o → Par num E (.lev k) d (S ++ R) o := by
    intro k hk hkl hs
    by_cases hp : hold x < least
    · rw [if_pos hp] at hd hS
      obtain ⟨y, hy, ho⟩ := paren_back h hd hS (R := R)
      exact ⟨y, hy, lift3 hk hs ho⟩
    · rw [if_neg hp] at hd hS
      exact h d S R k hd hS hk (by omega) hs
  refine ⟨key, fun k hk hkl hs => ?_⟩
  by_cases hk2 : k ≤ 2
  · obtain ⟨y, hy, ho⟩ := key k hk2 hkl (hs.mono (by omega))
    exact ⟨y, hy, ho _ (hs.done y d)⟩
  · obtain rfl : k = 3 := by omega
    by_cases hp : hold x < least
    · rw [if_pos hp] at hd hS
      obtain ⟨y, hy, ho⟩ := paren_back h hd hS (R := R)
      exact ⟨y, hy, .top ho⟩
    · rw [if_neg hp] at hS
      obtain ⟨y, hy, ho⟩ := h3 d S R hS (by omega)
      exact ⟨y, hy, .top ho⟩
theorem one_tok {S : List Tok} {t : List UInt8} (h : S.map Prod.fst = [t]) : ∃ a, S = [(t, a)] := by
  obtain ⟨a, S1, rfl, ha, h1⟩ := List.map_eq_cons_iff.1 h
  obtain rfl := List.map_eq_nil_iff.1 h1
  exact ⟨a.2, by rw [← ha]⟩
theorem digit_first {l : List UInt8} (h1 : l ≠ []) (h2 : ∀ c ∈ l, Lex.digit c.toNat = true) : ∃ c r, l = c :: r ∧ Lex.digit c.toNat = true := by
  cases l with
  | nil => exact absurd rfl h1
  | cons c r => exact ⟨c, r, rfl, h2 c (by simp)⟩
theorem back : ∀ x : X, Fine num dec x → Bk num dec E x ∧ Bk3 num dec E x
  | .num a n, h => by
    have key : Bk3 num dec E (.num a n) := by
      intro d S R hS _
      obtain ⟨b, rfl⟩ := one_tok hS
      obtain ⟨c, r, hc, hd⟩ := digit_first h.1 h.2.1
      exact ⟨.num b n, .num a b n, .num (t := (dec n, b)) hc hd h.2.2⟩
    refine ⟨fun d S R k _ hS hk _ hs => ?_, key⟩
    obtain ⟨y, hy, ho⟩ := key d S R hS (Nat.le_refl _)
    exact ⟨y, hy, lift3 hk hs ho⟩
  | .name a s, h => by
    have key : Bk3 num dec E (.name a s) := by
      intro d S R hS _
      obtain ⟨b, rfl⟩ := one_tok hS
      obtain ⟨c, r, hc, hd⟩ := h.2.2.2
      exact ⟨.name b s, .name a b s, .name (t := (s, b)) hc hd h.2.1⟩
    refine ⟨fun d S R k _ hS hk _ hs => ?_, key⟩
    obtain ⟨y, hy, ho⟩ := key d S R hS (Nat.le_refl _)
    exact ⟨y, hy, lift3 hk hs ho⟩
  | .bin a op l r, h => by
    obtain ⟨h1, h2, h3⟩ := h
    obtain ⟨bl, bl3⟩ := back l h2
    obtain ⟨br, br3⟩ := back r h3
    refine ⟨fun d S R k hd hS hk hkh hs => ?_, fun d S R hS h9 => absurd h9 (by show ¬ 3 ≤ opLevel op; omega)⟩
    have hkh' : k ≤ opLevel op := hkh
    unfold pt at hS
    unfold deepAt at hd
    obtain ⟨SL, S1, rfl, hl, h4⟩ := List.map_eq_append_iff.1 hS
    obtain ⟨t, SR, rfl, ht, hr⟩ := List.map_eq_cons_iff.1 h4
    have hdl : d + (if hold l < opLevel op then deepAt dec l + 1 else deepAt dec l) ≤ 8 := by
      have := Nat.le_max_left (if hold l < opLevel op then deepAt dec l + 1 else deepAt dec l) (if hold r < opLevel op + 1 then deepAt dec r + 1 else deepAt dec r)
      omega
    have hdr : d + (if hold r < opLevel op + 1 then deepAt dec r + 1 else deepAt dec r) ≤ 8 := by
      have := Nat.le_max_right (if hold l < opLevel op then deepAt dec l + 1 else deepAt dec l) (if hold r < opLevel op + 1 then deepAt dec r + 1 else deepAt dec r)
      omega
    have hop := level_of op h1
    obtain ⟨yl, syl, cl⟩ := (part_back bl bl3 (R := t :: (SR ++ R)) hdl hl (by omega)).1 (opLevel op) (by omega) (Nat.le_refl _) (stop_op _ t _ (by rw [ht]; omega))
    obtain ⟨yr, syr, cr⟩ := (part_back br br3 (R := R) hdr hr (by omega)).2 (opLevel op + 1) (by omega) (Nat.le_refl _) (hs.mono (by omega))
    refine ⟨.bin t.2 op yl yr, .bin a t.2 op syl syr, ?_⟩
    have e : (SL ++ t :: SR) ++ R = SL ++ t :: (SR ++ R) := by simp
    rw [e]
    refine lift (opLevel op - k) k (opLevel op) (by omega) (by omega) hs fun o ho => cl o ?_
    refine .more (by rw [ht]; exact hop) cr ?_
    rw [ht]
    exact ho
/-- .. where there are too many brackets it is told so -/
def Bd (num : NumOf) (dec : Dec) (E : Nat) (x : X) : Prop := ∀ (d : Nat) (S R : List Tok) (k : Nat), d ≤ 8 → 8 < d + deepAt dec x → S.map Prod.fst = pt dec x → k ≤ 3 → k ≤ hold x → ∃ p, Par num E (.lev k) d (S ++ R) (.bad 4 p)
theorem part_bad {x : X} (h : Bd num dec E x) {d least : Nat} {S R : List Tok} (h8 : d ≤ 8) (hd : 8 < d + (if hold x < least then deepAt dec x + 1 else deepAt dec x)) (hS : S.map Prod.fst = if hold x < least then [40] :: (pt dec x ++ [[41]]) else pt dec x) (hl : least ≤ 3) :
    ∃ p, Par num E (.lev least) d (S ++ R) (.bad 4 p) := by
  by_cases hp : hold x < least
  · rw [if_pos hp] at hd hS
    obtain ⟨a, S1, rfl, ha, h1⟩ := List.map_eq_cons_iff.1 hS
    obtain ⟨S2, S3, rfl, h2, h3⟩ := List.map_eq_append_iff.1 h1
    obtain ⟨b, S4, rfl, hb, h4⟩ := List.map_eq_cons_iff.1 h3
    obtain rfl := List.map_eq_nil_iff.1 h4
    have e : (a :: (S2 ++ [b])) ++ R = a :: (S2 ++ b :: R) := by simp
    rw [e]
    by_cases h9 : d = 8
    · subst h9
      exact ⟨_, liftBad (3 - least) least 3 (by omega) (by omega) (.top (.deep ha))⟩
    · obtain ⟨p, hp2⟩ := h (d + 1) S2 (b :: R) 0 (by omega) (by omega) h2 (by omega) (by omega)
      exact ⟨p, liftBad (3 - least) least 3 (by omega) (by omega) (.top (.parenBad ha (by omega) hp2))⟩
  · rw [if_neg hp] at hd hS
    exact h d S R least h8 hd hS hl (by omega)
theorem back_bad : ∀ x : X, Fine num dec x → Bd num dec E x
  | .num a n, h => fun d S R k h8 hd => by simp only [deepAt] at hd; omega
  | .name a s, h => fun d S R k h8 hd => by simp only [deepAt] at hd; omega
  | .bin a op l r, h => by
    obtain ⟨h1, h2, h3⟩ := h
    obtain ⟨bl, bl3⟩ := back (E := E) l h2
    have dl := back_bad l h2
    have dr := back_bad r h3
    intro d S R k h8 hd hS hk hkh
    have hkh' : k ≤ opLevel op := hkh
    unfold pt at hS
    unfold deepAt at hd
    obtain ⟨SL, S1, rfl, hl, h4⟩ := List.map_eq_append_iff.1 hS
    obtain ⟨t, SR, rfl, ht, hr⟩ := List.map_eq_cons_iff.1 h4
    have hop := level_of op h1
    have e : (SL ++ t :: SR) ++ R = SL ++ t :: (SR ++ R) := by simp
    rw [e]
    by_cases hdl : 8 < d + (if hold l < opLevel op then deepAt dec l + 1 else deepAt dec l)
    · obtain ⟨p, hp⟩ := part_bad dl (R := t :: (SR ++ R)) h8 hdl hl (by omega)
      exact ⟨p, liftBad (opLevel op - k) k (opLevel op) (by omega) (by omega) hp⟩
    · have hdr : 8 < d + (if hold r < opLevel op + 1 then deepAt dec r + 1 else deepAt dec r) := by
        generalize (if hold l < opLevel op then deepAt dec l + 1 else deepAt dec l) = u at hd hdl
        generalize (if hold r < opLevel op + 1 then deepAt dec r + 1 else deepAt dec r) = v at hd ⊢
        have : max u v = u ∨ max u v = v := by omega
        omega
      obtain ⟨p, hp⟩ := part_bad (least := opLevel op + 1) dr (R := R) h8 hdr hr (by omega)
      obtain ⟨yl, syl, cl⟩ := (part_back (least := opLevel op) bl bl3 (R := t :: (SR ++ R)) (Nat.le_of_not_lt hdl) hl (by omega)).1 (opLevel op) (by omega) (Nat.le_refl _) (stop_op _ t _ (by rw [ht]; omega))
      exact ⟨p, liftBad (opLevel op - k) k (opLevel op) (by omega) (by omega) (cl _ (.moreBad (by rw [ht]; exact hop) hp))⟩
/-- what is read lies within eight brackets, those that are written -/
theorem deep_read {c : Cat} {d : Nat} {T : List Tok} {o : Out} (h : Par num E c d T o) : d ≤ 8 → ∀ x R, o = .ok x R → (∀ k y, c = .loop k y → k < 3 ∧ d + (if hold y < k then deepAt dec y + 1 else deepAt dec y) ≤ 8) →
    d + (if hold x < (match c with | .lev k => k | .loop k _ => k | .one => 3) then deepAt dec x + 1 else deepAt dec x) ≤ 8 := by
  induction h with
  | top _ ih => intro h8 x R e _; exact ih h8 x R e (by intro k y e; cases e)
  | @lev k d T T' y o hk _ _ ih1 ih2 =>
    intro h8 x R e _
    have h1 := ih1 h8 _ _ rfl (by intro k y e; cases e)
    refine ih2 h8 x R e ?_
    intro k' y' e'
    cases e'
    refine ⟨hk, ?_⟩
    simp only at h1
    split at h1 <;> split <;> omega
  | levBad => intro h8 x R e; cases e
  | done _ => intro h8 x R e h; cases e; exact (h _ _ rfl).2
  | @more k y d t T T' z o ht _ _ ih1 ih2 =>
    intro h8 x R e h
    have h1 := ih1 h8 _ _ rfl (by intro k y e; cases e)
    obtain ⟨hk, h2⟩ := h _ _ rfl
    refine ih2 h8 x R e ?_
    intro k' y' e'
    cases e'
    refine ⟨hk, ?_⟩
    have ho := (level_mark k _ ht).2.1
    have e1 : hold (.bin t.2 t.1 y z) = k := ho
    have e2 : deepAt dec (.bin t.2 t.1 y z) = max (if hold y < k then deepAt dec y + 1 else deepAt dec y) (if hold z < k + 1 then deepAt dec z + 1 else deepAt dec z) := by
      rw [← ho]; rfl
    rw [e1, e2, if_neg (Nat.lt_irrefl _)]
    simp only at h1
    generalize (if hold y < k then deepAt dec y + 1 else deepAt dec y) = u at h2 ⊢
    generalize (if hold z < k + 1 then deepAt dec z + 1 else deepAt dec z) = v at h1 ⊢
    omega
  | moreBad => intro h8 x R e; cases e
  | @paren d t T u T' y h1 h2 _ _ ih =>
    intro h8 x R e _
    cases e
    have := ih (by omega) _ _ rfl (by intro k y e; cases e)
    simp only [Nat.not_lt_zero, if_false] at this
    show d + (if hold y < 3 then deepAt dec y + 1 else deepAt dec y) ≤ 8
    split <;> omega
  | parenNone => intro h8 x R e; cases e
  | parenBad => intro h8 x R e; cases e
  | deep => intro h8 x R e; cases e
  | name => intro h8 x R e _; cases e; simp only [hold, deepAt, Nat.lt_irrefl, if_false]; omega
  | nameLong => intro h8 x R e; cases e
  | none => intro h8 x R e; cases e
  | mark => intro h8 x R e; cases e
  | num => intro h8 x R e _; cases e; simp only [hold, deepAt, Nat.lt_irrefl, if_false]; omega
  | numBad => intro h8 x R e; cases e
/-- what is read may be written -/
theorem fine_read (hnum : ∀ l n, num l = .inl n → dec n ≠ [] ∧ (∀ c ∈ dec n, Lex.digit c.toNat = true) ∧ num (dec n) = .inl n) {c : Cat} {d : Nat} {T : List Tok} {o : Out} (h : Par num E c d T o) : ∀ x R, o = .ok x R → (∀ t ∈ T, ∀ c r, t.1 = c :: r → Lex.word c = true → ∀ b ∈ t.1, Lex.word b = true) → (∀ k y, c = .loop k y → Fine num dec y) → Fine num dec x := by
  induction h with
  | top _ ih => intro x R e hT _; exact ih x R e hT (by intro k y e; cases e)
  | @lev k d T T' y o hk hp _ ih1 ih2 =>
    intro x R e hT _
    have hs := (hp.less _ _ rfl).1
    exact ih2 x R e (fun t ht => hT t (hs.subset ht)) (by intro k' y' e'; cases e'; exact ih1 _ _ rfl hT (by intro k y e; cases e))
  | levBad => intro x R e; cases e
  | done _ => intro x R e _ h; cases e; exact h _ _ rfl
  | @more k y d t T T' z o ht hp _ ih1 ih2 =>
    intro x R e hT h
    have hs := (hp.less _ _ rfl).1
    refine ih2 x R e (fun u hu => hT u (List.mem_cons_of_mem _ (hs.subset hu))) ?_
    intro k' y' e'
    cases e'
    have hm := level_mark k _ ht
    refine ⟨by rw [hm.2.1]; exact hm.2.2, h _ _ rfl, ih1 _ _ rfl (fun u hu => hT u (by simp [hu])) (by intro k y e; cases e)⟩
  | moreBad => intro x R e; cases e
  | paren _ _ _ _ ih =>
    intro x R e hT _
    cases e
    exact ih _ _ rfl (fun u hu => hT u (by simp [hu])) (by intro k y e; cases e)
  | parenNone => intro x R e; cases e
  | parenBad => intro x R e; cases e
  | deep => intro x R e; cases e
  | @name d t T c r h1 h2 h3 =>
    intro x R e hT _
    cases e
    exact ⟨by rw [h1]; simp, h3, hT t (by simp) c r h1 (by unfold Lex.word; rw [h2, Bool.true_or]), c, r, h1, h2⟩
  | nameLong => intro x R e; cases e
  | none => intro x R e; cases e
  | mark => intro x R e; cases e
  | num h1 h2 h3 => intro x R e _ _; cases e; exact hnum _ _ h3
  | numBad => intro x R e; cases e
end Ex
end Go.Proofs.YtfdmgeloghpodaaDoor
end
