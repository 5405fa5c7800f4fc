/- Contract of expr.Text. -/
import Derived.WalkKit
import Derived.Test.YtlomecfhobehnaaGreatDoorMgLayoutBack3
import Derived.Test.YtlomecfhobehnaaGreatDoorMgLayoutBack4
import Derived.Test.YtlomecfhobehnaaGreatDoorMgLayoutBack8
section
/- What is written is read: an expression's own tokens, and with brackets about it. -/
namespace Go.Proofs.YtlomecfhobehnaaGreatDoor
set_option linter.unusedVariables false
set_option linter.unusedSimpArgs false
namespace Ex
variable {num : NumOf} {dec : Dec} {E : Nat}
/-- no op of level k, or one that holds more strongly, comes next -/
def Stop (k : Nat) (R : List Tok) : Prop := ∀ t T', R = t :: T' → ∀ j, k ≤ j → t.1 ∉ levels j
theorem Stop.mono {k j : Nat} {R : List Tok} (h : Stop k R) (hj : k ≤ j) : Stop j R := fun t T' e i hi => h t T' e i (by omega)
theorem Stop.done {k : Nat} {R : List Tok} (h : Stop k R) (x : X) (d : Nat) : Par num E (.loop k x) d R (.ok x R) := .done fun t T' e => h t T' e k (Nat.le_refl _)
theorem stop_nil (k : Nat) : Stop k [] := fun t T' e => by cases e
theorem stop_shut (k : Nat) (u : Tok) (R : List Tok) (h : u.1 = [41]) : Stop k (u :: R) := by
  intro t T' e j _ hm
  cases e
  rw [h] at hm
  exact absurd (level_mark j _ hm).1 (by
    intro _
    have := (level_mark j _ hm).2.1
    have h2 := (level_mark j _ hm).2.2
    have h3 : opLevel [41] = 3 := by decide
    omega)
theorem stop_op (k : Nat) (u : Tok) (R : List Tok) (h : opLevel u.1 < k) : Stop k (u :: R) := by
  intro t T' e j hj hm
  cases e
  have := (level_mark j _ hm).2.1
  omega
theorem lift {T R : List Tok} {y : X} {d : Nat} : ∀ (n k j : Nat), j = k + n → j ≤ 2 → Stop (k + 1) R → (∀ o, Par num E (.loop j y) d R o → Par num E (.lev j) d T o) → ∀ o, Par num E (.loop k y) d R o → Par num E (.lev k) d T o
  | 0, k, j, hj, _, _, h, o, ho => by subst hj; exact h o ho
  | n + 1, k, j, hj, h2, hs, h, o, ho => by
    have := lift n (k + 1) j (by omega) h2 (hs.mono (by omega)) h (.ok y R) (hs.done y d)
    exact .lev (by omega) this ho
theorem lift3 {T R : List Tok} {y : X} {d k : Nat} (hk : k ≤ 2) (hs : Stop (k + 1) R) (h : Par num E .one d T (.ok y R)) : ∀ o, Par num E (.loop k y) d R o → Par num E (.lev k) d T o :=
  lift (2 - k) k 2 (by omega) (by omega) hs fun o ho => .lev (by omega) (.top h) ho
theorem liftBad {T : List Tok} {d e p : Nat} : ∀ (n k j : Nat), j = k + n → j ≤ 3 → Par num E (.lev j) d T (.bad e p) → Par num E (.lev k) d T (.bad e p)
  | 0, k, j, hj, _, h => by subst hj; exact h
  | n + 1, k, j, hj, h2, h => .levBad (by omega) (liftBad n (k + 1) j (by omega) h2 h)
/-- it is read back: in a row with what comes behind -/
def Bk (num : NumOf) (dec : Dec) (E : Nat) (x : X) : Prop := ∀ (d : Nat) (S R : List Tok) (k : Nat), d + deepAt dec x ≤ 8 → S.map Prod.fst = pt dec x → k ≤ 2 → k ≤ hold x → Stop (k + 1) R →
  ∃ y, Same x y ∧ ∀ o, Par num E (.loop k y) d R o → Par num E (.lev k) d (S ++ R) o
def Bk3 (num : NumOf) (dec : Dec) (E : Nat) (x : X) : Prop := ∀ (d : Nat) (S R : List Tok), S.map Prod.fst = pt dec x → 3 ≤ hold x → ∃ y, Same x y ∧ Par num E .one d (S ++ R) (.ok y R)
theorem paren_back {x : X} (h : Bk num dec E x) {d : Nat} {S R : List Tok} (hd : d + (deepAt dec x + 1) ≤ 8) (hS : S.map Prod.fst = [40] :: (pt dec x ++ [[41]])) : ∃ y, Same x y ∧ Par num E .one d (S ++ R) (.ok y R) := by
  obtain ⟨a, S1, rfl, ha, h1⟩ := List.map_eq_cons_iff.1 hS
  obtain ⟨S2, S3, rfl, h2, h3⟩ := List.map_eq_append_iff.1 h1
  obtain ⟨b, S4, rfl, hb, h4⟩ := List.map_eq_cons_iff.1 h3
  obtain rfl := List.map_eq_nil_iff.1 h4
  obtain ⟨y, hy, hp⟩ := h (d + 1) S2 (b :: R) 0 (by omega) h2 (by omega) (by omega) (stop_shut 1 b R hb)
  refine ⟨y, hy, ?_⟩
  have := hp _ ((stop_shut 0 b R hb).done y (d + 1))
  have e : (a :: (S2 ++ [b])) ++ R = a :: (S2 ++ b :: R) := by simp
  rw [e]
  exact .paren ha (by omega) this hb
theorem part_back {x : X} (h : Bk num dec E x) (h3 : Bk3 num dec E x) {d least : Nat} {S R : List Tok} (hd : d + (if hold x < least then deepAt dec x + 1 else deepAt dec x) ≤ 8) (hS : S.map Prod.fst = if hold x < least then [40] :: (pt dec x ++ [[41]]) else pt dec x) (hl : least ≤ 3) :
    (∀ k, k ≤ 2 → k ≤ least → Stop (k + 1) R → ∃ y, Same x y ∧ ∀ o, Par num E (.loop k y) d R o → Par num E (.lev k) d (S ++ R) o) ∧ (∀ k, k ≤ 3 → k ≤ least → Stop k R → ∃ y, Same x y ∧ Par num E (.lev k) d (S ++ R) (.ok y R)) := by
  have key : ∀ k, k ≤ 2 → k ≤ least → Stop (k + 1) R → ∃ y, Same x y ∧ ∀ o, Par num E (.loop k y) d R o → Par num E (.lev k) d (S ++ R) o := by
    intro k hk hkl hs
    by_cases hp : hold x < least
    · rw [if_pos hp] at hd hS
      obtain ⟨y, hy, ho⟩ := paren_back h hd hS (R := R)
      exact ⟨y, hy, lift3 hk hs ho⟩
    · rw [if_neg hp] at hd hS
      exact h d S R k hd hS hk (by omega) hs
  refine ⟨key, fun k hk hkl hs => ?_⟩
  by_cases hk2 : k ≤ 2
  · obtain ⟨y, hy, ho⟩ := key k hk2 hkl (hs.mono (by omega))
    exact ⟨y, hy, ho _ (hs.done y d)⟩
  · obtain rfl : k = 3 := by omega
    by_cases hp : hold x < least
    · rw [if_pos hp] at hd hS
      obtain ⟨y, hy, ho⟩ := paren_back h hd hS (R := R)
      exact ⟨y, hy, .top ho⟩
    · rw [if_neg hp] at hS
      obtain ⟨y, hy, ho⟩ := h3 d S R hS (by omega)
      exact ⟨y, hy, .top ho⟩
theorem one_tok {S : List Tok} {t : List UInt8} (h : S.map Prod.fst = [t]) : ∃ a, S = [(t, a)] := by
  obtain ⟨a, S1, rfl, ha, h1⟩ := List.map_eq_cons_iff.1 h
  obtain rfl := List.map_eq_nil_iff.1 h1
  exact ⟨a.2, by rw [← ha]⟩
theorem digit_first {l : List UInt8} (h1 : l ≠ []) (h2 : ∀ c ∈ l, Lex.digit c.toNat = true) : ∃ c r, l = c :: r ∧ Lex.digit c.toNat = true := by
  cases l with
  | nil => exact absurd rfl h1
  | cons c r => exact ⟨c, r, rfl, h2 c (by simp)⟩
theorem back : ∀ x : X, Fine num dec x → Bk num dec E x ∧ Bk3 num dec E x
  | .num a n, h => by
    have key : Bk3 num dec E (.num a n) := by
      intro d S R hS _
      obtain ⟨b, rfl⟩ := one_tok hS
      obtain ⟨c, r, hc, hd⟩ := digit_first h.1 h.2.1
      exact ⟨.num b n, .num a b n, .num (t := (dec n, b)) hc hd h.2.2⟩
    refine ⟨fun d S R k _ hS hk _ hs => ?_, key⟩
    obtain ⟨y, hy, ho⟩ := key d S R hS (Nat.le_refl _)
    exact ⟨y, hy, lift3 hk hs ho⟩
  | .name a s, h => by
    have key : Bk3 num dec E (.name a s) := by
      intro d S R hS _
      obtain ⟨b, rfl⟩ := one_tok hS
      obtain ⟨c, r, hc, hd⟩ := h.2.2.2
      exact ⟨.name b s, .name a b s, .name (t := (s, b)) hc hd h.2.1⟩
    refine ⟨fun d S R k _ hS hk _ hs => ?_, key⟩
    obtain ⟨y, hy, ho⟩ := key d S R hS (Nat.le_refl _)
    exact ⟨y, hy, lift3 hk hs ho⟩
  | .bin a op l r, h => by
    obtain ⟨h1, h2, h3⟩ := h
    obtain ⟨bl, bl3⟩ := back l h2
    obtain ⟨br, br3⟩ := back r h3
    refine ⟨fun d S R k hd hS hk hkh hs => ?_, fun d S R hS h9 => absurd h9 (by show ¬ 3 ≤ opLevel op; omega)⟩
    have hkh' : k ≤ opLevel op := hkh
    unfold pt at hS
    unfold deepAt at hd
    obtain ⟨SL, S1, rfl, hl, h4⟩ := List.map_eq_append_iff.1 hS
    obtain ⟨t, SR, rfl, ht, hr⟩ := List.map_eq_cons_iff.1 h4
    have hdl : d + (if hold l < opLevel op then deepAt dec l + 1 else deepAt dec l) ≤ 8 := by
      have := Nat.le_max_left (if hold l < opLevel op then deepAt dec l + 1 else deepAt dec l) (if hold r < opLevel op + 1 then deepAt dec r + 1 else deepAt dec r)
      omega
    have hdr : d + (if hold r < opLevel op + 1 then deepAt dec r + 1 else deepAt dec r) ≤ 8 := by
      have := Nat.le_max_right (if hold l < opLevel op then deepAt dec l + 1 else deepAt dec l) (if hold r < opLevel op + 1 then deepAt dec r + 1 else deepAt dec r)
      omega
    have hop := level_of op h1
    obtain ⟨yl, syl, cl⟩ := (part_back bl bl3 (R := t :: (SR ++ R)) hdl hl (by omega)).1 (opLevel op) (by omega) (Nat.le_refl _) (stop_op _ t _ (by rw [ht]; omega))
    obtain ⟨yr, syr, cr⟩ := (part_back br br3 (R := R) hdr hr (by omega)).2 (opLevel op + 1) (by omega) (Nat.le_refl _) (hs.mono (by omega))
    refine ⟨.bin t.2 op yl yr, .bin a t.2 op syl syr, ?_⟩
    have e : (SL ++ t :: SR) ++ R = SL ++ t :: (SR ++ R) := by simp
    rw [e]
    refine lift (opLevel op - k) k (opLevel op) (by omega) (by omega) hs fun o ho => cl o ?_
    refine .more (by rw [ht]; exact hop) cr ?_
    rw [ht]
    exact ho
/-- .. where there are too many brackets it is told so -/
def Bd (num : NumOf) (dec : Dec) (E : Nat) (x : X) : Prop := ∀ (d : Nat) (S R : List Tok) (k : Nat), d ≤ 8 → 8 < d + deepAt dec x → S.map Prod.fst = pt dec x → k ≤ 3 → k ≤ hold x → ∃ p, Par num E (.lev k) d (S ++ R) (.bad 4 p)
theorem part_bad {x : X} (h : Bd num dec E x) {d least : Nat} {S R : List Tok} (h8 : d ≤ 8) (hd : 8 < d + (if hold x < least then deepAt dec x + 1 else deepAt dec x)) (hS : S.map Prod.fst = if hold x < least then [40] :: (pt dec x ++ [[41]]) else pt dec x) (hl : least ≤ 3) :
    ∃ p, Par num E (.lev least) d (S ++ R) (.bad 4 p) := by
  by_cases hp : hold x < least
  · rw [if_pos hp] at hd hS
    obtain ⟨a, S1, rfl, ha, h1⟩ := List.map_eq_cons_iff.1 hS
    obtain ⟨S2, S3, rfl, h2, h3⟩ := List.map_eq_append_iff.1 h1
    obtain ⟨b, S4, rfl, hb, h4⟩ := List.map_eq_cons_iff.1 h3
    obtain rfl := List.map_eq_nil_iff.1 h4
    have e : (a :: (S2 ++ [b])) ++ R = a :: (S2 ++ b :: R) := by simp
    rw [e]
    by_cases h9 : d = 8
    · subst h9
      exact ⟨_, liftBad (3 - least) least 3 (by omega) (by omega) (.top (.deep ha))⟩
    · obtain ⟨p, hp2⟩ := h (d + 1) S2 (b :: R) 0 (by omega) (by omega) h2 (by omega) (by omega)
      exact ⟨p, liftBad (3 - least) least 3 (by omega) (by omega) (.top (.parenBad ha (by omega) hp2))⟩
  · rw [if_neg hp] at hd hS
    exact h d S R least h8 hd hS hl (by omega)
theorem back_bad : ∀ x : X, Fine num dec x → Bd num dec E x
  | .num a n, h => fun d S R k h8 hd => by simp only [deepAt] at hd; omega
  | .name a s, h => fun d S R k h8 hd => by simp only [deepAt] at hd; omega
  | .bin a op l r, h => by
    obtain ⟨h1, h2, h3⟩ := h
    obtain ⟨bl, bl3⟩ := back (E := E) l h2
    have dl := back_bad l h2
    have dr := back_bad r h3
    intro d S R k h8 hd hS hk hkh
    have hkh' : k ≤ opLevel op := hkh
    unfold pt at hS
    unfold deepAt at hd
    obtain ⟨SL, S1, rfl, hl, h4⟩ := List.map_eq_append_iff.1 hS
    obtain ⟨t, SR, rfl, ht, hr⟩ := List.map_eq_cons_iff.1 h4
    have hop := level_of op h1
    have e : (SL ++ t :: SR) ++ R = SL ++ t :: (SR ++ R) := by simp
    rw [e]
    by_cases hdl : 8 < d + (if hold l < opLevel op then deepAt dec l + 1 else deepAt dec l)
    · obtain ⟨p, hp⟩ := part_bad dl (R := t :: (SR ++ R)) h8 hdl hl (by omega)
      exact ⟨p, liftBad (opLevel op - k) k (opLevel op) (by omega) (by omega) hp⟩
    · have hdr : 8 < d + (if hold r < opLevel op + 1 then deepAt dec r + 1 else deepAt dec r) := by
        generalize (if hold l < opLevel op then deepAt dec l + 1 else deepAt dec l) = u at hd hdl
        generalize (if hold r < opLevel op + 1 then deepAt dec r + 1 else deepAt dec r) = v at hd ⊢
        have : max u v = u ∨ max u v = v := by omega
        omega
      obtain ⟨p, hp⟩ := part_bad (least := opLevel op + 1) dr (R := R) h8 hdr hr (by omega)
      obtain ⟨yl, syl, cl⟩ := (part_back (least := opLevel op) bl bl3 (R := t :: (SR ++ R)) (Nat.le_of_not_lt hdl) hl (by omega)).1 (opLevel op) (by omega) (Nat.le_refl _) (stop_op _ t _ (by rw [ht]; omega))
      exact ⟨p, liftBad (opLevel op - k) k (opLevel op) (by omega) (by omega) (cl _ (.moreBad (by rw [ht]; exact hop) hp))⟩
/-- what is read lies within eight brackets, those that are written -/
theorem deep_read {c : Cat} {d : Nat} {T : List Tok} {o : Out} (h : Par num E c d T o) : d ≤ 8 → ∀ x R, o = .ok x R → (∀ k y, c = .loop k y → k < 3 ∧ d + (if hold y < k then deepAt dec y + 1 else deepAt dec y) ≤ 8) →
    d + (if hold x < (match c with | .lev k => k | .loop k _ => k | .one => 3) then deepAt dec x + 1 else deepAt dec x) ≤ 8 := by
  induction h with
  | top _ ih => intro h8 x R e _; exact ih h8 x R e (by intro k y e; cases e)
  | @lev k d T T' y o hk _ _ ih1 ih2 =>
    intro h8 x R e _
    have h1 := ih1 h8 _ _ rfl (by intro k y e; cases e)
    refine ih2 h8 x R e ?_
    intro k' y' e'
    cases e'
    refine ⟨hk, ?_⟩
    simp only at h1
    split at h1 <;> split <;> omega
  | levBad => intro h8 x R e; cases e
  | done _ => intro h8 x R e h; cases e; exact (h _ _ rfl).2
  | @more k y d t T T' z o ht _ _ ih1 ih2 =>
    intro h8 x R e h
    have h1 := ih1 h8 _ _ rfl (by intro k y e; cases e)
    obtain ⟨hk, h2⟩ := h _ _ rfl
    refine ih2 h8 x R e ?_
    intro k' y' e'
    cases e'
    refine ⟨hk, ?_⟩
    have ho := (level_mark k _ ht).2.1
    have e1 : hold (.bin t.2 t.1 y z) = k := ho
    have e2 : deepAt dec (.bin t.2 t.1 y z) = max (if hold y < k then deepAt dec y + 1 else deepAt dec y) (if hold z < k + 1 then deepAt dec z + 1 else deepAt dec z) := by
      rw [← ho]; rfl
    rw [e1, e2, if_neg (Nat.lt_irrefl _)]
    simp only at h1
    generalize (if hold y < k then deepAt dec y + 1 else deepAt dec y) = u at h2 ⊢
    generalize (if hold z < k + 1 then deepAt dec z + 1 else deepAt dec z) = v at h1 ⊢
    omega
  | moreBad => intro h8 x R e; cases e
  | @paren d t T u T' y h1 h2 _ _ ih =>
    intro h8 x R e _
    cases e
    have := ih (by omega) _ _ rfl (by intro k y e; cases e)
    simp only [Nat.not_lt_zero, if_false] at this
    show d + (if hold y < 3 then deepAt dec y + 1 else deepAt dec y) ≤ 8
    split <;> omega
  | parenNone => intro h8 x R e; cases e
  | parenBad => intro h8 x R e; cases e
  | deep => intro h8 x R e; cases e
  | name => intro h8 x R e _; cases e; simp only [hold, deepAt, Nat.lt_irrefl, if_false]; omega
  | nameLong => intro h8 x R e; cases e
  | none => intro h8 x R e; cases e
  | mark => intro h8 x R e; cases e
  | num => intro h8 x R e _; cases e; simp only [hold, deepAt, Nat.lt_irrefl, if_false]; omega
  | numBad => intro h8 x R e; cases e
/-- what is read may be written -/
theorem fine_read (hnum : ∀ l n, num l = .inl n → dec n ≠ [] ∧ (∀ c ∈ dec n, Lex.digit c.toNat = true) ∧ num (dec n) = .inl n) {c : Cat} {d : Nat} {T : List Tok} {o : Out} (h : Par num E c d T o) : ∀ x R, o = .ok x R → (∀ t ∈ T, ∀ c r, t.1 = c :: r → Lex.word c = true → ∀ b ∈ t.1, Lex.word b = true) → (∀ k y, c = .loop k y → Fine num dec y) → Fine num dec x := by
  induction h with
  | top _ ih => intro x R e hT _; exact ih x R e hT (by intro k y e; cases e)
  | @lev k d T T' y o hk hp _ ih1 ih2 =>
    intro x R e hT _
    have hs := (hp.less _ _ rfl).1
    exact ih2 x R e (fun t ht => hT t (hs.subset ht)) (by intro k' y' e'; cases e'; exact ih1 _ _ rfl hT (by intro k y e; cases e))
  | levBad => intro x R e; cases e
  | done _ => intro x R e _ h; cases e; exact h _ _ rfl
  | @more k y d t T T' z o ht hp _ ih1 ih2 =>
    intro x R e hT h
    have hs := (hp.less _ _ rfl).1
    refine ih2 x R e (fun u hu => hT u (List.mem_cons_of_mem _ (hs.subset hu))) ?_
    intro k' y' e'
    cases e'
    have hm := level_mark k _ ht
    refine ⟨by rw [hm.2.1]; exact hm.2.2, h _ _ rfl, ih1 _ _ rfl (fun u hu => hT u (by simp [hu])) (by intro k y e; cases e)⟩
  | moreBad => intro x R e; cases e
  | paren _ _ _ _ ih =>
    intro x R e hT _
    cases e
    exact ih _ _ rfl (fun u hu => hT u (by simp [hu])) (by intro k y e; cases e)
  | parenNone => intro x R e; cases e
  | parenBad => intro x R e; cases e
  | deep => intro x R e; cases e
  | @name d t T c r h1 h2 h3 =>
    intro x R e hT _
    cases e
    exact ⟨by rw [h1]; simp, h3, hT t (by simp) c r h1 (by unfold Lex.word; rw [h2, Bool.true_or]), c, r, h1, h2⟩
  | nameLong => intro x R e; cases e
  | none => intro x R e; cases e
  | mark => intro x R e; cases e
  | num h1 h2 h3 => intro x R e _ _; cases e; exact hnum _ _ h3
  | numBad => intro x R e; cases e
end Ex
end Go.Proofs.YtlomecfhobehnaaGreatDoor
end
section
/- What an expression comes to; the law ExprAgain in plain words. -/
namespace Go.Proofs.YtlomecfhobehnaaGreatDoor
set_option linter.unusedVariables false
set_option linter.unusedSimpArgs false
namespace Ex
theorem num_ok : ∀ l n, Num.numOf l = .inl n → Num.dec n ≠ [] ∧ (∀ c ∈ Num.dec n, Lex.digit c.toNat = true) ∧ Num.numOf (Num.dec n) = .inl n := by
  intro l n h
  have hn := Num.numOf_lt h
  refine ⟨Num.dec_ne n (by omega), fun c hc => ?_, Num.numOf_dec n hn⟩
  have := (Num.dec_digits n c hc).2
  unfold Lex.digit
  exact decide_eq_true this
/-- what follows a token's first byte, if that is a letter or a digit -/
theorem words : ∀ (n : Nat) (l : List UInt8) (i : Nat) (T : List Tok), l.length ≤ n → Lex.lexA l i = some T → ∀ t ∈ T, t.1 ≠ [] ∧ ∀ c r, t.1 = c :: r → Lex.word c = true → ∀ b ∈ t.1, Lex.word b = true := by
  intro n
  induction n with
  | zero =>
    intro l i T h hT
    obtain rfl := List.eq_nil_of_length_eq_zero (Nat.le_zero.1 h)
    rw [Lex.lexA_nil] at hT
    cases hT
    intro t ht; cases ht
  | succ n ih =>
    intro l i T h hT
    cases l with
    | nil => rw [Lex.lexA_nil] at hT; cases hT; intro t ht; cases ht
    | cons c l =>
      rw [List.length_cons] at h
      by_cases h1 : c = 32 ∨ c = 10 ∨ c = 9
      · rw [Lex.lexA_blank c l i h1] at hT
        exact ih l _ T (by omega) hT
      · by_cases h2 : c = 35
        · subst h2
          rw [Lex.lexA_note] at hT
          exact ih _ _ T (by rw [List.length_drop, List.length_cons]; have := Lex.note_pos l; omega) hT
        · by_cases h3 : Lex.next (c :: l) = 0
          · rw [Lex.lexA_bad c l i h1 h2 h3] at hT; cases hT
          · rw [Lex.lexA_tok c l i h1 h2 h3, Option.map_eq_some_iff] at hT
            obtain ⟨T', hT', rfl⟩ := hT
            intro t ht
            rcases List.mem_cons.1 ht with rfl | ht
            · constructor
              · intro e
                have := congrArg List.length e
                rw [List.length_take, List.length_cons, List.length_nil] at this
                omega
              · intro d r hd hw b hb
                have hdc : d = c := by
                  obtain ⟨k, hk⟩ : ∃ k, Lex.next (c :: l) = k + 1 := ⟨Lex.next (c :: l) - 1, by omega⟩
                  simp only [hk, List.take_succ_cons] at hd
                  cases hd; rfl
                subst hdc
                simp only at hb
                rw [Lex.next_cons, if_pos hw] at hb
                have hp := List.takeWhile_prefix Lex.word (l := d :: l)
                rw [← List.prefix_iff_eq_take.1 hp] at hb
                exact Lex.takeWhile_all Lex.word _ b hb
            · exact ih _ _ T' (by rw [List.length_drop, List.length_cons]; omega) hT' t ht
def wrapI (z : Int) : Int := IntKind.i64.wrap z
def truth (b : Bool) : Int := if b then 1 else 0
/-- what an op makes of two numbers -/
def opv (op : List UInt8) (a b : Int) : Int :=
  if op = [43] then wrapI (a + b) else if op = [45] then wrapI (a - b) else if op = [42] then wrapI (a * b) else if op = [38] then bits .and .i64 a b else if op = [124] then bits .or .i64 a b else
  if op = [61, 61] then truth (decide (a = b)) else if op = [33, 61] then truth (!decide (a = b)) else if op = [60] then truth (decide (a < b)) else truth (decide (b < a))
abbrev Names := List UInt8 → Option Int
def ev (N : Names) : X → Option Int
  | .num _ n => some n
  | .name _ s => N s
  | .bin _ op l r => (ev N l).bind fun a => (ev N r).map fun b => opv op a b
theorem Same.ev {N : Names} {x y : X} (h : Same x y) : Ex.ev N x = Ex.ev N y := by
  induction h with
  | num => rfl
  | name => rfl
  | bin a b op _ _ ih1 ih2 => unfold Ex.ev; rw [ih1, ih2]
def InR (v : Int) : Prop := -9223372036854775808 ≤ v ∧ v ≤ 9223372036854775807
theorem wrapI_range (z : Int) : InR (wrapI z) := by
  unfold InR wrapI
  rw [IntKind.wrap_i64]
  omega
theorem truth_range (b : Bool) : InR (truth b) := by cases b <;> (unfold InR truth; simp)
theorem opv_range (op : List UInt8) (a b : Int) : InR (opv op a b) := by
  unfold opv
  have hb : ∀ o x y, InR (bits o .i64 x y) := fun o x y => wrapI_range _
  repeat' split
  all_goals first | exact wrapI_range _ | exact hb _ _ _ | exact truth_range _
theorem ev_range {N : Names} (hN : ∀ s v, N s = some v → InR v) : ∀ x : X, Fine Num.numOf Num.dec x → ∀ v, ev N x = some v → InR v
  | .num _ n, h, v, e => by
    have := Num.numOf_lt h.2.2
    unfold ev at e
    cases e
    unfold InR; omega
  | .name _ s, h, v, e => hN s v e
  | .bin _ op l r, h, v, e => by
    unfold ev at e
    rw [Option.bind_eq_some_iff] at e
    obtain ⟨a, _, e⟩ := e
    rw [Option.map_eq_some_iff] at e
    obtain ⟨b, _, rfl⟩ := e
    exact opv_range op a b
theorem ev_once {N : Names} (hN : ∀ s v, N s = some v → InR v) (x : X) (h : Fine Num.numOf Num.dec x) (a b : Nat) : ev N (.bin a [42] x (.num b 1)) = ev N x := by
  have e0 : ev N (.bin a [42] x (.num b 1)) = (ev N x).bind fun u => (ev N (.num b 1)).map fun v => opv [42] u v := rfl
  rw [e0]
  cases e : ev N x with
  | none => rfl
  | some v =>
    have := ev_range hN x h v e
    have e2 : ev N (.num b 1) = some 1 := rfl
    rw [e2]
    show some (opv [42] v 1) = some v
    have e3 : opv [42] v 1 = wrapI (v * 1) := rfl
    rw [e3]
    unfold wrapI InR at *
    rw [IntKind.wrap_i64]
    congr 1
    omega
/-- with brackets about it, and once -/
theorem bracket {num : NumOf} {dec : Dec} {E : Nat} (h1 : num [49] = .inl 1) (x : X) (hx : Fine num dec x) (T : List Tok) (hT : T.map Prod.fst = [40] :: (pt dec x ++ [[41], [42], [49]])) :
    (deepAt dec x + 1 ≤ 8 → ∃ y a b, Same x y ∧ Par num E (.lev 0) 0 T (.ok (.bin a [42] y (.num b 1)) [])) ∧ (8 < deepAt dec x + 1 → ∃ p, Par num E (.lev 0) 0 T (.bad 4 p)) := by
  have hT2 : T.map Prod.fst = ([40] :: (pt dec x ++ [[41]])) ++ [[42], [49]] := by rw [hT]; simp
  obtain ⟨S, R, rfl, hS, hR⟩ := List.map_eq_append_iff.1 hT2
  obtain ⟨m, R1, rfl, hm, hR1⟩ := List.map_eq_cons_iff.1 hR
  obtain ⟨u, R2, rfl, hu, hR2⟩ := List.map_eq_cons_iff.1 hR1
  obtain rfl := List.map_eq_nil_iff.1 hR2
  obtain ⟨bk, bk3⟩ := back (num := num) (E := E) x hx
  constructor
  · intro hd
    obtain ⟨y, hy, ho⟩ := paren_back bk (d := 0) (R := [m, u]) (by omega) hS
    refine ⟨y, m.2, u.2, hy, ?_⟩
    have hmm : m.1 ∈ levels 2 := by rw [hm]; decide
    have hone : Par num E (.lev 3) 0 [u] (.ok (.num u.2 1) []) := .top (.num (c := 49) (r := []) hu (by decide) (by rw [hu]; exact h1))
    have l2 : Par num E (.lev 2) 0 (S ++ [m, u]) (.ok (.bin m.2 m.1 y (.num u.2 1)) []) := .lev (by omega) (.top ho) (.more hmm hone ((stop_nil 2).done _ 0))
    rw [hm] at l2
    exact .lev (by omega) (.lev (by omega) l2 ((stop_nil 1).done _ 0)) ((stop_nil 0).done _ 0)
  · intro hd
    obtain ⟨a, S1, rfl, ha, h2⟩ := List.map_eq_cons_iff.1 hS
    obtain ⟨S2, S3, rfl, h3, h4⟩ := List.map_eq_append_iff.1 h2
    obtain ⟨p, hp⟩ := back_bad (num := num) (E := E) x hx 1 S2 (S3 ++ [m, u]) 0 (by omega) (by omega) h3 (by omega) (by omega)
    refine ⟨p, liftBad 3 0 3 rfl (by omega) (.top ?_)⟩
    have e : (a :: (S2 ++ S3)) ++ [m, u] = a :: (S2 ++ (S3 ++ [m, u])) := by simp
    rw [e]
    exact .parenBad ha (by omega) hp
theorem texts_bracket {num : NumOf} {dec : Dec} (x : X) (hx : Fine num dec x) : texts (40 :: (pr dec x ++ [41, 42, 49])) 0 = some ([40] :: (pt dec x ++ [[41], [42], [49]])) := by
  have h1 : texts [49] 0 = some [[49]] := by
    have := texts_word [49] [] 0 (by decide) (by decide) (.inl (.inl rfl))
    rw [List.append_nil] at this
    rw [this]; rfl
  rw [texts_open, texts_pr x hx _ _ (.inr ⟨41, _, rfl, .inr rfl⟩), texts_shut, texts_star, h1]
  rfl
theorem texts_again {num : NumOf} {dec : Dec} (x : X) (hx : Fine num dec x) : texts (pr dec x) 0 = some (pt dec x) := by
  have := texts_pr x hx [] 0 (.inl rfl)
  rw [List.append_nil] at this
  rw [this]
  show some (pt dec x ++ []) = _
  rw [List.append_nil]
/-- WHAT IS WRITTEN IS READ -/
theorem again_read {num : NumOf} {dec : Dec} {E : Nat} (x : X) (hx : Fine num dec x) (hd : deepAt dec x ≤ 8) (T : List Tok) (hT : T.map Prod.fst = pt dec x) : ∃ y, Same x y ∧ Par num E (.lev 0) 0 T (.ok y []) := by
  obtain ⟨y, hy, ho⟩ := (back (num := num) (E := E) x hx).1 0 T [] 0 (by omega) hT (by omega) (by omega) (stop_nil 1)
  have := ho _ ((stop_nil 0).done y 0)
  rw [List.append_nil] at this
  exact ⟨y, hy, this⟩
end Ex
end Go.Proofs.YtlomecfhobehnaaGreatDoor
end
section
/- Contract of expr.Text. -/
namespace Go.Proofs.YtlomecfhobehnaaGreatDoor
open Go.RowKit
set_option linter.unusedVariables false
set_option linter.unusedSimpArgs false
open Rd
open Ex (X levels)
theorem Print_dec (n : Nat) (w : World) (hn : n < 18446744073709551616) : Calls Tryz.prog 133 #[.int .u64 (n : Nat), .int .i64 10, .int .i64 0] w fun e w' => e = .returned (.tuple #[.string (bstr (Num.dec n)), .nilIface]) ∧ Below w.heap.size w w' := by
  refine (Print_any n 10 0 w hn (by decide) (by decide) (by decide)).mono ?_
  rintro e w' ⟨⟨J, hJ, rfl⟩, hb⟩
  have : J = Num.wdt n := Digits.Wide.unique hJ (Num.wdt_wide n hn)
  subst this
  exact ⟨rfl, hb⟩
set_option maxRecDepth 100000 in
theorem Text_num (a n : Nat) (hn : n < 9223372036854775808) : TextC (.num a n) := by
  intro w rb b hl hrb hx hp
  have c0 := hx.2.cell0 0 (by simp)
  have c2 := hx.2.cell0 2 (by simp)
  simp only [List.getElem_cons_zero, List.getElem_cons_succ] at c0 c2
  have HP := Lib.hid (Print_dec n w (by omega))
  have hw : IntKind.u64.wrap (n : Int) = (n : Int) := by rw [IntKind.wrap_u64]; omega
  clear hx hl hp
  show Calls _ _ _ _ fun e w' => e = .returned (.string (bstr (Num.dec n))) ∧ Below w.heap.size w w'
  go_enter Tryz.func108, Tryz.ntmps108
  go_wp2_with fail
  refine HP.out.mono ?_
  rintro e w1 ⟨rfl, hb⟩
  go_wp2_with fail
  go_ret
  exact ⟨rfl, hb⟩
set_option maxRecDepth 100000 in
theorem Text_name (a : Nat) (s : List UInt8) : TextC (.name a s) := by
  intro w rb b hl hrb hx hp
  have c0 := hx.2.cell0 0 (by simp)
  have c3 := hx.2.cell0 3 (by simp)
  simp only [List.getElem_cons_zero, List.getElem_cons_succ] at c0 c3
  clear hx hl hp
  show Calls _ _ _ _ fun e w' => e = .returned (.string (bstr s)) ∧ Below w.heap.size w w'
  go_enter Tryz.func108, Tryz.ntmps108
  go_wp2_with fail
  go_ret
  exact ⟨rfl, Below.refl _ _⟩
theorem pr_bin (a : Nat) (op : List UInt8) (l r : X) : Ex.pr Num.dec (.bin a op l r) = partOf l (Ex.opLevel op) ++ 32 :: (op ++ 32 :: partOf r (Ex.opLevel op + 1)) := rfl
theorem part_ge (x : X) (k : Nat) : (Ex.pr Num.dec x).length ≤ (partOf x k).length := by
  unfold partOf
  split
  · simp only [List.length_cons, List.length_append]; omega
  · exact Nat.le_refl _
/-- what the region keeps: the node's cells -/
abbrev TS (w : World) (b bl br : Nat) (op : List UInt8) (w1 : World) : Prop := w1.cell? ⟨b, 5, none⟩ = some (.pointer (some ⟨bl, 0, none⟩)) ∧ w1.cell? ⟨b, 4, none⟩ = some (.string (bstr op)) ∧ w1.cell? ⟨b, 6, none⟩ = some (.pointer (some ⟨br, 0, none⟩)) ∧ Below w.heap.size w w1
theorem TS.keep {w w1 w2 : World} {b bl br : Nat} {op : List UInt8} (h : TS w b bl br op w1) (hb : b < w.heap.size) (h2 : Below w1.heap.size w1 w2) : TS w b bl br op w2 := by
  have hlt : b < w1.heap.size := Nat.lt_of_lt_of_le hb h.2.2.2.size
  exact ⟨(h2.cell (p := ⟨b, 5, none⟩) hlt).trans h.1, (h2.cell (p := ⟨b, 4, none⟩) hlt).trans h.2.1, (h2.cell (p := ⟨b, 6, none⟩) hlt).trans h.2.2.1, h.2.2.2.trans (h2.mono h.2.2.2.size)⟩
theorem TS.drew {w w1 : World} {b bl br : Nat} {op : List UInt8} (h : TS w b bl br op w1) : TS w b bl br op w1.drew := ⟨h.1, h.2.1, h.2.2.1, h.2.2.2.drew⟩
set_option maxRecDepth 100000 in
set_option maxHeartbeats 4000000 in
theorem Text_bin (a : Nat) (op : List UInt8) (l r : X) (hop : Ex.opLevel op < 3) (hL : TextC l) (hR : TextC r) : TextC (.bin a op l r) := by
  intro w rb b hl hrb hx hp
  have HH := Lib.hid (hold_x hl hx)
  have hh : Ex.hold (.bin a op l r) = Ex.opLevel op := rfl
  rw [hh] at HH
  obtain ⟨bl, br, h1, h2, h3, h4⟩ := hx
  have c0 := h2.cell0 0 (by simp)
  have c4 := h2.cell0 4 (by simp)
  have c5 := h2.cell0 5 (by simp)
  have c6 := h2.cell0 6 (by simp)
  simp only [List.getElem_cons_zero, List.getElem_cons_succ] at c0 c4 c5 c6
  rw [pr_bin] at hp ⊢
  have hpl := part_ge l (Ex.opLevel op)
  have hpr := part_ge r (Ex.opLevel op + 1)
  simp only [List.length_append, List.length_cons] at hp
  obtain ⟨k, hk⟩ : ∃ k, k = Ex.opLevel op := ⟨_, rfl⟩
  rw [← hk] at hpl hpr hp HH hop ⊢
  have hblt := h2.lt
  have hlv : ∀ W, Below w.heap.size w W → LevelsAt W rb := fun W hB => by
    refine ⟨hl.1, fun i hi => ?_⟩
    obtain ⟨gk, ck, e1, e2, e3⟩ := hl.2 i hi
    exact ⟨gk, ck, (hB.cell (p := ⟨_, i, none⟩) (Nat.lt_of_lt_of_le hl.1 hrb)).trans e1, e2, fun j hj => (hB.cell (p := gk.add j) (by rw [Addr.add_block]; exact Nat.lt_of_lt_of_le e2 hrb)).trans (e3 j hj)⟩
  have HPL : Hid (∀ W, TS w b bl br op W → Calls Tryz.prog 135 #[.pointer (some ⟨bl, 0, none⟩), .int .i64 (k : Nat)] W fun e w' => e = .returned (.string (bstr (partOf l k))) ∧ TS w b bl br op w') := Lib.hid fun W hW =>
    (part_any l k W rb bl hL (hlv W hW.2.2.2) (Nat.le_trans hrb hW.2.2.2.size) (IsX.grown (below_grown hW.2.2.2 _) l bl h3) (by omega) (by omega)).mono fun e w' ⟨h, hb⟩ => ⟨h, hW.keep hblt hb⟩
  have HPR : Hid (∀ W, TS w b bl br op W → Calls Tryz.prog 135 #[.pointer (some ⟨br, 0, none⟩), .int .i64 ((k : Int) + 1)] W fun e w' => e = .returned (.string (bstr (partOf r (k + 1)))) ∧ TS w b bl br op w') := Lib.hid fun W hW =>
    (part_any r (k + 1) W rb br hR (hlv W hW.2.2.2) (Nat.le_trans hrb hW.2.2.2.size) (IsX.grown (below_grown hW.2.2.2 _) r br h4) (by omega) (by omega)).mono fun e w' ⟨h, hb⟩ => ⟨h, hW.keep hblt hb⟩
  have hS0 : TS w b bl br op w := ⟨c5, c4, c6, Below.refl _ _⟩
  generalize partOf l k = p at *
  generalize partOf r (k + 1) = q at *
  have z1 : ¬ 9223372036854775807 < p.length + 1 := by omega
  have z2 : ¬ 9223372036854775807 < p.length + 1 + op.length := by omega
  have z3 : ¬ 9223372036854775807 < p.length + 1 + op.length + 1 := by omega
  have z4 : ¬ 9223372036854775807 < p.length + 1 + op.length + 1 + q.length := by omega
  have z5 : ¬ 9223372036854775807 < p.length + (op.length + 1) := by omega
  have hkw : IntKind.i64.wrap ((k : Int) + 1) = (k : Int) + 1 := by rw [IntKind.wrap_i64]; omega
  clear hlv hL hR hl h2 h3 h4 hpl hpr hh hk hp
  go_enter Tryz.func108, Tryz.ntmps108
  go_wp2_with fail
  refine HH.out.mono ?_
  rintro e w ⟨rfl, rfl⟩
  go_wp2_with fail
  go_region_held3 (fun w1 => w1.cell? ⟨b, 5, none⟩ = some (.pointer (some ⟨bl, 0, none⟩)) ∧ w1.cell? ⟨b, 4, none⟩ = some (.string (bstr op)) ∧ w1.cell? ⟨b, 6, none⟩ = some (.pointer (some ⟨br, 0, none⟩)) ∧ Below w.heap.size w w1)
    (first
      | exact hS0
      | exact TS.drew (by assumption)
      | assumption)
    (first
      | (go_at_call 135; (with_reducible refine (HPL.out _ ?_).mono ?_); (next => (first | assumption | exact hS0)); (rintro e w9 ⟨rfl, hS9⟩))
      | ((try rw [hkw]); go_at_call 135; (with_reducible refine (HPR.out _ ?_).mono ?_); (next => (first | assumption | exact hS0)); (rintro e w9 ⟨rfl, hS9⟩)))
  all_goals
    go_wp2_with fail
    go_ret
    have hst : bstr p ++ { data := #[32] } ++ bstr op ++ { data := #[32] } ++ bstr q = bstr (p ++ 32 :: (op ++ 32 :: q)) := by
      rw [show ({ data := #[32] } : ByteArray) = bstr [32] from rfl]
      simp only [bstr_append, List.append_assoc]
      rfl
    exact ⟨by rw [← hst]; rfl, hS9.2.2.2⟩
theorem Text_x : ∀ x : X, Ex.Fine Num.numOf Num.dec x → TextC x
  | .num a n, h => Text_num a n (Num.numOf_lt h.2.2)
  | .name a s, _ => Text_name a s
  | .bin a op l r, h => Text_bin a op l r h.1 (Text_x l h.2.1) (Text_x r h.2.2)
end Go.Proofs.YtlomecfhobehnaaGreatDoor
end
