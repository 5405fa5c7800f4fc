/- Templates in plain words: other names, other places, and more behind. -/
import Derived.Test.YtlpkebngehmimaaGreatDoorMgTypesMore18
import Derived.Test.YtlpkebngehmimaaGreatDoorMgTypesMore15
section
/- Templates in plain words: what is written is read. -/
namespace Go.Proofs.YtlpkebngehmimaaGreatDoor
set_option linter.unusedVariables false
set_option linter.unusedSimpArgs false
namespace Tm
open Ex
variable {E E' : Nat}
theorem stop_mark (u : Tok) (R : List Tok) (h : opLevel u.1 = 3) : Stop 0 (u :: R) := by
  intro t T' e j _ hm
  cases e
  have := (level_mark j _ hm).2
  omega
theorem ParT.back {x : X} (hx : FineX x) {S R : List Tok} (hS : S.map Prod.fst = ptX x) (hR : Stop 0 R) : ∃ y, Same x y ∧ ParT E (S ++ R) y R := by
  obtain ⟨y, hy, ho⟩ := (Ex.back (num := Num.numOf) (E := E) x hx.1).1 0 S R 0 (by have := hx.2; omega) hS (by omega) (by omega) (hR.mono (by omega))
  exact ⟨y, hy, ho _ (hR.done y 0)⟩
theorem map1 {S : List Tok} {a : Wd} {l : List Wd} (h : S.map Prod.fst = a :: l) : ∃ t S', S = t :: S' ∧ t.1 = a ∧ S'.map Prod.fst = l := by
  obtain ⟨t, S', h1, h2, h3⟩ := List.map_eq_cons_iff.1 h
  exact ⟨t, S', h1, h2, h3⟩
theorem mapa {S : List Tok} {a b : List Wd} (h : S.map Prod.fst = a ++ b) : ∃ U V, S = U ++ V ∧ U.map Prod.fst = a ∧ V.map Prod.fst = b := by
  obtain ⟨U, V, h1, h2, h3⟩ := List.map_eq_append_iff.1 h
  exact ⟨U, V, h1, h2, h3⟩
theorem tail_back {h : Hd} (hf : FineH h) {S R : List Tok} (hS : S.map Prod.fst = ptTail h.cnt h.rule ++ [[59]]) : ∃ c' s', SameO h.cnt c' ∧ TailP E h.k (S ++ R) c' h.rule (s' :: R) ∧ s'.1 = [59] := by
  obtain ⟨at_, k, name, cnt, rule⟩ := h
  obtain ⟨h1, h2, h3, h4, h5, h6⟩ := hf
  simp only [] at *
  obtain ⟨U, V, rfl, hU, hV⟩ := mapa hS
  obtain ⟨s, V', rfl, hs, hV'⟩ := map1 hV
  obtain rfl := List.map_eq_nil_iff.1 hV'
  have e : (U ++ [s]) ++ R = U ++ s :: R := by simp
  rw [e]
  cases cnt with
  | some c =>
    obtain ⟨hx, hr⟩ := h3 c rfl
    subst hr
    obtain ⟨o, U1, rfl, ho, hU1⟩ := map1 hU
    obtain ⟨P, Q, rfl, hP, hQ⟩ := mapa hU1
    obtain ⟨u, Q', rfl, hu, hQ'⟩ := map1 hQ
    obtain rfl := List.map_eq_nil_iff.1 hQ'
    obtain ⟨y, hy, hp⟩ := ParT.back (E := E) hx hP (R := u :: s :: R) (stop_mark u _ (by rw [hu]; decide))
    refine ⟨some y, s, hy, .cnt ?_ (by simp), hs⟩
    have e2 : (o :: (P ++ [u])) ++ s :: R = o :: (P ++ u :: s :: R) := by simp
    rw [e2]
    exact .yes ho hp hu
  | none =>
    refine ⟨none, s, trivial, ?_, hs⟩
    by_cases hr : rule = .none
    · subst hr
      obtain rfl := List.map_eq_nil_iff.1 hU
      refine .cnt (.no ?_) h5
      show s.1 ≠ [91]
      rw [hs]; decide
    · obtain ⟨w, rfl⟩ := h6 hr
      have hro : ∃ o U1, U = o :: U1 ∧ o.1 = [61] ∧ RuleP (U1 ++ s :: R) rule (s :: R) := by
        cases rule with
        | none => exact absurd rfl hr
        | size f =>
          obtain ⟨o, U1, rfl, ho, hU1⟩ := map1 hU
          obtain ⟨a, U2, rfl, ha, hU2⟩ := map1 hU1
          obtain ⟨b, U3, rfl, hb, hU3⟩ := map1 hU2
          obtain rfl := List.map_eq_nil_iff.1 hU3
          refine ⟨o, _, rfl, ho, ?_⟩
          rw [← hb]
          exact .size ha (by rw [hb]; exact h4.2)
        | count f =>
          obtain ⟨o, U1, rfl, ho, hU1⟩ := map1 hU
          obtain ⟨a, U2, rfl, ha, hU2⟩ := map1 hU1
          obtain ⟨b, U3, rfl, hb, hU3⟩ := map1 hU2
          obtain rfl := List.map_eq_nil_iff.1 hU3
          refine ⟨o, _, rfl, ho, ?_⟩
          rw [← hb]
          exact .count ha (by rw [hb]; exact h4.2)
        | check f l =>
          unfold ptTail at hU
          simp only [] at hU
          by_cases hfl : l = f
          · rw [if_pos hfl] at hU
            subst hfl
            obtain ⟨o, U1, rfl, ho, hU1⟩ := map1 hU
            obtain ⟨a, U2, rfl, ha, hU2⟩ := map1 hU1
            obtain ⟨b, U3, rfl, hb, hU3⟩ := map1 hU2
            obtain rfl := List.map_eq_nil_iff.1 hU3
            refine ⟨o, _, rfl, ho, ?_⟩
            rw [← hb]
            exact .check1 ha (by rw [hb]; exact h4.1.2) hs
          · rw [if_neg hfl] at hU
            obtain ⟨o, U1, rfl, ho, hU1⟩ := map1 hU
            obtain ⟨a, U2, rfl, ha, hU2⟩ := map1 hU1
            obtain ⟨b, U3, rfl, hb, hU3⟩ := map1 hU2
            obtain ⟨c, U4, rfl, hc, hU4⟩ := map1 hU3
            obtain rfl := List.map_eq_nil_iff.1 hU4
            refine ⟨o, _, rfl, ho, ?_⟩
            rw [← hb, ← hc]
            exact .check2 ha (by rw [hb]; exact h4.1.2) (by rw [hc]; intro e; have := h4.2.2; rw [e] at this; exact absurd this (by decide)) (by rw [hc]; exact h4.2.2)
      obtain ⟨o, U1, rfl, ho, hru⟩ := hro
      exact .rule ho hru
theorem HdP.back {T R0 : List Tok} {h : Hd} (hp : HdP E T h R0) (hf : FineH h) {S R : List Tok} (hS : S.map Prod.fst = ptH h) : ∃ h', SameH h h' ∧ HdP E' (S ++ R) h' R := by
  obtain ⟨t, S1, rfl, ht, hS1⟩ := map1 hS
  obtain ⟨n, S2, rfl, hn, hS2⟩ := map1 hS1
  obtain ⟨c', s', h1, h2, h3⟩ := tail_back (E := E') hf (R := R) hS2
  have hk : KndP t h.k := by
    obtain ⟨at_, k, name, cnt, rule⟩ := h
    simp only [] at ht ⊢
    cases k with
    | scalar w => rw [show w = t.1 from ht.symm]; exact .scalar (by rw [ht]; exact hf.1)
    | bytes => exact .bytes ht
    | struct w => rw [show w = t.1 from ht.symm]; exact .struct (by rw [ht]; exact hf.1.2)
  have hnm : nameB n.1 = true := by rw [hn]; exact hf.2.1.2
  exact ⟨⟨t.2, h.k, n.1, c', h.rule⟩, ⟨rfl, hn.symm, h1, rfl⟩, .mk hk hnm h2 h3⟩
theorem Blk.back {d n : Nat} {T R0 : List Tok} {l : Its} (h : Blk E d n T l R0) : FineI l → ∀ S R : List Tok, S.map Prod.fst = ptI l ++ [[125]] → ∃ l', SameI l l' ∧ Blk E' d n (S ++ R) l' R := by
  induction h with
  | fin _ =>
    intro _ S R hS
    obtain ⟨t, S1, rfl, ht, hS1⟩ := map1 hS
    obtain rfl := List.map_eq_nil_iff.1 hS1
    exact ⟨.nil, .nil, .fin ht⟩
  | @item d n T R1 R0 a l h1 h2 _ ih =>
    intro hf S R hS
    rw [show ptI (.cons a l) = ptH a ++ ptI l from rfl, List.append_assoc] at hS
    obtain ⟨U, V, rfl, hU, hV⟩ := mapa hS
    obtain ⟨l', g1, g2⟩ := ih hf.2 V R hV
    obtain ⟨a', g3, g4⟩ := h2.back (E' := E') hf.1 (R := V ++ R) hU
    exact ⟨.cons a' l', .cons g3 g1, by rw [List.append_assoc]; exact .item h1 g4 g2⟩
  | @when d n t b T T2 R1 R0 c body l h1 h2 h3 h4 h5 _ _ ih1 ih2 =>
    intro hf S R hS
    rw [show ptI (.when t.2 c body l) = wWhen :: (ptX c ++ [123] :: (ptI body ++ [125] :: ptI l)) from rfl] at hS
    obtain ⟨u, S1, rfl, hu, hS1⟩ := map1 (a := wWhen) (l := ptX c ++ ([123] :: (ptI body ++ [125] :: (ptI l ++ [[125]])))) (by rw [hS]; simp)
    obtain ⟨P, Q, rfl, hP, hQ⟩ := mapa hS1
    obtain ⟨o, Q1, rfl, ho, hQ1⟩ := map1 hQ
    obtain ⟨B, C, rfl, hB, hC⟩ := mapa (a := ptI body ++ [[125]]) (b := ptI l ++ [[125]]) (by rw [hQ1]; simp)
    obtain ⟨l', g1, g2⟩ := ih2 hf.2.2 C R hC
    obtain ⟨b', g3, g4⟩ := ih1 hf.2.1 B (C ++ R) hB
    obtain ⟨c', g5, g6⟩ := ParT.back (E := E') hf.1 hP (R := o :: (B ++ (C ++ R))) (stop_mark o _ (by rw [ho]; decide))
    refine ⟨.when u.2 c' b' l', .when g5 g3 g1, ?_⟩
    have e : (u :: (P ++ o :: (B ++ C))) ++ R = u :: (P ++ o :: (B ++ (C ++ R))) := by simp
    rw [e]
    exact .when h1 hu g6 ho h5 g4 g2
theorem Tys.back {n : Nat} {T : List Tok} {l : List Ty} (h : Tys E n T l) : (∀ t ∈ l, FineT t) → ∀ S : List Tok, S.map Prod.fst = ptTs l → ∃ l', SameTs l l' ∧ Tys E' n S l' := by
  induction h with
  | fin =>
    intro _ S hS
    obtain rfl := List.map_eq_nil_iff.1 hS
    exact ⟨[], .nil, .fin⟩
  | @one n t m b T R l r h1 h2 h3 h4 h5 _ ih =>
    intro hf S hS
    have hft := hf _ (List.mem_cons_self ..)
    obtain ⟨u, S1, rfl, hu, hS1⟩ := map1 (a := wStruct) (l := m.1 :: [123] :: ((ptI l ++ [[125]]) ++ ptTs r)) (by rw [hS]; show ptT _ ++ ptTs r = _; unfold ptT; simp)
    obtain ⟨v, S2, rfl, hv, hS2⟩ := map1 hS1
    obtain ⟨o, S3, rfl, ho, hS3⟩ := map1 hS2
    obtain ⟨U, V, rfl, hU, hV⟩ := mapa hS3
    obtain ⟨r', g1, g2⟩ := ih (fun t ht => hf t (List.mem_cons_of_mem _ ht)) V hV
    obtain ⟨l', g3, g4⟩ := h5.back (E' := E') hft.2 U V hU
    exact ⟨⟨v.1, v.2, l'⟩ :: r', .cons ⟨hv.symm, g3⟩ g1, .one h1 hu (by rw [hv]; exact h3) ho g4 g2⟩
end Tm
end Go.Proofs.YtlpkebngehmimaaGreatDoor
end
section
/- A name is its number: the law ExprNames in plain words. -/
namespace Go.Proofs.YtlpkebngehmimaaGreatDoor
set_option linter.unusedVariables false
set_option linter.unusedSimpArgs false
namespace Ex
section
variable {num : NumOf} {dec : Dec} (nm : List UInt8) (n : Nat)
def sub (dec : Dec) (nm : List UInt8) (n : Nat) (t : List UInt8) : List UInt8 := if t = nm then dec n else t
/-- a number in the place of a name -/
inductive Sub : X → X → Prop where
  | num (a b m : Nat) : Sub (.num a m) (.num b m)
  | name (a b : Nat) (s : List UInt8) : s ≠ nm → Sub (.name a s) (.name b s)
  | put (a b : Nat) : Sub (.name a nm) (.num b n)
  | bin (a b : Nat) (op : List UInt8) {l l' r r' : X} : Sub l l' → Sub r r' → Sub (.bin a op l r) (.bin b op l' r')
inductive SubC : Cat → Cat → Prop where
  | lev (k : Nat) : SubC (.lev k) (.lev k)
  | one : SubC .one .one
  | loop (k : Nat) {x y : X} : Sub nm n x y → SubC (.loop k x) (.loop k y)
theorem sub_stay {c : UInt8} {r t : List UInt8} (hc : nm = c :: r) (hl : Lex.letter c.toNat = true) (ht : ∀ d s, t = d :: s → Lex.letter d.toNat = false) : sub dec nm n t = t := by
  unfold sub
  rw [if_neg]
  intro e
  have := ht c r (by rw [e, hc])
  rw [hl] at this; cases this
theorem cons_sub {T' : List Tok} {t : Tok} {T : List Tok} {f : List UInt8 → List UInt8} (h : T'.map Prod.fst = (t :: T).map fun u => f u.1) : ∃ t' T2, T' = t' :: T2 ∧ t'.1 = f t.1 ∧ T2.map Prod.fst = T.map fun u => f u.1 := by
  rw [List.map_cons] at h
  obtain ⟨a, S1, rfl, ha, h1⟩ := List.map_eq_cons_iff.1 h
  exact ⟨a, S1, rfl, ha, h1⟩
theorem level_letter (k : Nat) (op : List UInt8) (h : op ∈ levels k) : ∀ d s, op = d :: s → Lex.letter d.toNat = false := by
  intro d s e
  obtain ⟨c, l, h1, h2, _⟩ := Lex.mark_head op (level_mark k op h).1
  rw [e] at h1
  cases h1
  unfold Lex.word at h2
  rw [Bool.or_eq_false_iff] at h2
  exact h2.1
theorem sub_read {E E' : Nat} {cn : UInt8} {rn : List UInt8} (hc : nm = cn :: rn) (hl : Lex.letter cn.toNat = true) (hd1 : dec n ≠ []) (hd2 : ∀ c ∈ dec n, Lex.digit c.toNat = true) (hd3 : num (dec n) = .inl n)
    {c : Cat} {d : Nat} {T : List Tok} {o : Out} (h : Par num E c d T o) : ∀ x R, o = .ok x R → ∀ c' T', SubC nm n c c' → T'.map Prod.fst = T.map (fun t => sub dec nm n t.1) → ∃ y R', Sub nm n x y ∧ R'.map Prod.fst = R.map (fun t => sub dec nm n t.1) ∧ Par num E' c' d T' (.ok y R') := by
  induction h with
  | top _ ih =>
    intro x R e c' T' hcc hT
    cases hcc
    obtain ⟨y, R', h1, h2, h3⟩ := ih x R e .one T' .one hT
    exact ⟨y, R', h1, h2, .top h3⟩
  | lev hk _ _ ih1 ih2 =>
    intro x R e c' T' hcc hT
    cases hcc
    obtain ⟨y, R', h1, h2, h3⟩ := ih1 _ _ rfl _ T' (.lev _) hT
    obtain ⟨z, R2, h4, h5, h6⟩ := ih2 x R e _ R' (.loop _ h1) h2
    exact ⟨z, R2, h4, h5, .lev hk h3 h6⟩
  | levBad => intro x R e; cases e
  | @done k x d T hx =>
    intro x' R e c' T' hcc hT
    cases e
    cases hcc with
    | loop _ hs =>
      refine ⟨_, T', hs, hT, .done ?_⟩
      intro t T2 e hm
      subst e
      cases T with
      | nil => simp at hT
      | cons u U =>
        have hu := hx u U rfl
        rw [List.map_cons, List.map_cons] at hT
        have ht : t.1 = sub dec nm n u.1 := (List.cons.inj hT).1
        rw [ht] at hm
        unfold sub at hm
        split at hm
        · have hne := hd1
          cases hdn : dec n with
          | nil => exact hd1 hdn
          | cons a r =>
            obtain ⟨c, l, h1, h2, _⟩ := Lex.mark_head _ (level_mark k _ hm).1
            rw [hdn] at h1
            cases h1
            have := digit_word a (hd2 a (by rw [hdn]; simp))
            rw [h2] at this; cases this
        · exact hu hm
  | @more k y d t T T2 z o ht _ _ ih1 ih2 =>
    intro x R e c' T' hcc hT
    cases hcc with
    | loop _ hs =>
      obtain ⟨t', T3, rfl, h1, h2⟩ := cons_sub hT
      rw [sub_stay nm n hc hl (level_letter k t.1 ht)] at h1
      obtain ⟨y2, R', h3, h4, h5⟩ := ih1 _ _ rfl _ T3 (.lev _) h2
      obtain ⟨z2, R2, h6, h7, h8⟩ := ih2 x R e _ R' (.loop _ (.bin t.2 t'.2 t.1 hs h3)) h4
      refine ⟨z2, R2, h6, h7, .more (by rw [h1]; exact ht) h5 ?_⟩
      rw [h1]; exact h8
  | moreBad => intro x R e; cases e
  | @paren d t T u T2 x h1 h2 _ h3 ih =>
    intro x' R e c' T' hcc hT
    cases e
    cases hcc
    obtain ⟨t', T3, rfl, h4, h5⟩ := cons_sub hT
    obtain ⟨y, R', h6, h7, h8⟩ := ih _ _ rfl _ T3 (.lev 0) h5
    obtain ⟨u', R2, rfl, h9, h10⟩ := cons_sub h7
    rw [h1, sub_stay nm n hc hl (by intro d s e; cases e; decide)] at h4
    rw [h3, sub_stay nm n hc hl (by intro d s e; cases e; decide)] at h9
    exact ⟨y, R2, h6, h10, .paren h4 h2 h8 h9⟩
  | parenNone => intro x R e; cases e
  | parenBad => intro x R e; cases e
  | deep => intro x R e; cases e
  | @name d t T c r h1 h2 h3 =>
    intro x R e c' T' hcc hT
    cases e
    cases hcc
    obtain ⟨t', T3, rfl, h4, h5⟩ := cons_sub hT
    by_cases hq : t.1 = nm
    · unfold sub at h4
      rw [if_pos hq] at h4
      obtain ⟨a, s, hs, hds⟩ := digit_first hd1 hd2
      refine ⟨.num t'.2 n, T3, by rw [hq]; exact .put _ _, h5, .num (c := a) (r := s) (by rw [h4]; exact hs) hds (by rw [h4]; exact hd3)⟩
    · unfold sub at h4
      rw [if_neg hq] at h4
      refine ⟨.name t'.2 t.1, T3, .name _ _ _ hq, h5, ?_⟩
      have := Par.name (num := num) (E := E') (d := d) (T := T3) (t := t') (c := c) (r := r) (by rw [h4]; exact h1) h2 (by rw [h4]; exact h3)
      rw [h4] at this
      exact this
  | nameLong => intro x R e; cases e
  | none => intro x R e; cases e
  | mark => intro x R e; cases e
  | @num d t T c r m h1 h2 h3 =>
    intro x R e c' T' hcc hT
    cases e
    cases hcc
    obtain ⟨t', T3, rfl, h4, h5⟩ := cons_sub hT
    have hnl : Lex.letter c.toNat = false := by
      unfold Lex.digit at h2
      have := of_decide_eq_true h2
      unfold Lex.letter
      simp
      omega
    rw [sub_stay nm n hc hl (by intro a s e; rw [h1] at e; cases e; exact hnl)] at h4
    exact ⟨.num t'.2 m, T3, .num _ _ _, h5, .num (c := c) (r := r) (by rw [h4]; exact h1) h2 (by rw [h4]; exact h3)⟩
  | numBad => intro x R e; cases e
theorem Sub.ev {N M : Names} (hn : N nm = some (n : Int)) (hM : ∀ s, s ≠ nm → M s = N s) {x y : X} (h : Sub nm n x y) : Ex.ev M y = Ex.ev N x := by
  induction h with
  | num => rfl
  | name a b s hs => exact hM s hs
  | put a b => show some ((n : Nat) : Int) = N nm; rw [hn]
  | bin a b op _ _ ih1 ih2 => unfold Ex.ev; rw [ih1, ih2]
end
end Ex
end Go.Proofs.YtlpkebngehmimaaGreatDoor
end
section
/- Templates in plain words: other names, other places, and more behind. -/
namespace Go.Proofs.YtlpkebngehmimaaGreatDoor
set_option linter.unusedVariables false
set_option linter.unusedSimpArgs false
namespace Tm
open Ex
variable {E E' : Nat}
/-! ## more behind -/
theorem Par.more_behind {num : NumOf} {c : Cat} {d : Nat} {T : List Tok} {o : Out} (h : Par num E c d T o) : ∀ x R U, o = .ok x R → R ≠ [] → Par num E c d (T ++ U) (.ok x (R ++ U)) := by
  induction h with
  | top _ ih => intro x R U e hR; exact .top (ih x R U e hR)
  | lev hk h1 h2 ih1 ih2 =>
    intro x R U e hR
    have hs := (h2.less _ _ e).1
    refine .lev hk (ih1 _ _ U rfl ?_) (ih2 x R U e hR)
    intro e2
    rw [e2] at hs
    exact hR (List.suffix_nil.1 hs)
  | levBad => intro x R U e; cases e
  | @done k x d T h =>
    intro y R U e hR
    cases e
    refine .done ?_
    intro t T' e
    cases T with
    | nil => exact absurd rfl hR
    | cons u T =>
      rw [List.cons_append] at e
      cases e
      exact h _ _ rfl
  | more h1 h2 h3 ih1 ih2 =>
    intro x R U e hR
    have hs := (h3.less _ _ e).1
    refine .more h1 (ih1 _ _ U rfl ?_) (ih2 x R U e hR)
    intro e2
    rw [e2] at hs
    exact hR (List.suffix_nil.1 hs)
  | moreBad => intro x R U e; cases e
  | paren h1 h2 h3 h4 ih =>
    intro x R U e hR
    cases e
    exact .paren h1 h2 (ih _ _ U rfl (by simp)) h4
  | parenNone => intro x R U e; cases e
  | parenBad => intro x R U e; cases e
  | deep => intro x R U e; cases e
  | name h1 h2 h3 => intro x R U e hR; cases e; exact .name h1 h2 h3
  | nameLong => intro x R U e; cases e
  | none => intro x R U e; cases e
  | mark => intro x R U e; cases e
  | num h1 h2 h3 => intro x R U e hR; cases e; exact .num h1 h2 h3
  | numBad => intro x R U e; cases e
theorem ParT.behind {T R : List Tok} {x : X} {u : Tok} (h : ParT E T x (u :: R)) (U : List Tok) : ParT E (T ++ U) x (u :: (R ++ U)) := Par.more_behind h x (u :: R) U rfl (by simp)
theorem Cnt.behind {T R : List Tok} {s : Tok} {c : Option X} (h : Cnt E T c (s :: R)) (U : List Tok) : Cnt E (T ++ U) c (s :: (R ++ U)) := by
  cases h with
  | no h1 => exact .no h1
  | yes h1 h2 h3 => exact .yes h1 (h2.behind U) h3
theorem RuleP.behind {T R : List Tok} {s : Tok} {r : Rl} (h : RuleP T r (s :: R)) (U : List Tok) : RuleP (T ++ U) r (s :: (R ++ U)) := by
  cases h with
  | size h1 h2 => exact .size h1 h2
  | count h1 h2 => exact .count h1 h2
  | check1 h1 h2 h3 => exact .check1 h1 h2 h3
  | check2 h1 h2 h3 h4 => exact .check2 h1 h2 h3 h4
theorem HdP.behind {T R : List Tok} {a : Hd} (h : HdP E T a R) (U : List Tok) : HdP E (T ++ U) a (R ++ U) := by
  cases h with
  | mk h1 h2 h3 h4 =>
    refine .mk h1 h2 ?_ h4
    cases h3 with
    | cnt g1 g2 => exact .cnt (g1.behind U) g2
    | rule g1 g2 => exact .rule g1 (g2.behind U)
theorem Blk.behind {d n : Nat} {T R : List Tok} {l : Its} (h : Blk E d n T l R) (U : List Tok) : Blk E d n (T ++ U) l (R ++ U) := by
  induction h with
  | fin h1 => exact .fin h1
  | item h1 h2 _ ih => exact .item h1 (h2.behind U) ih
  | when h1 h2 h3 h4 h5 _ _ ih1 ih2 => exact .when h1 h2 (h3.behind U) h4 h5 ih1 ih2
theorem Tys.append {n : Nat} {T U : List Tok} {l m : List Ty} (h : Tys E n T l) : Tys E (n + l.length) U m → Tys E n (T ++ U) (l ++ m) := by
  induction h with
  | fin => intro g; simpa using g
  | one h1 h2 h3 h4 h5 _ ih =>
    intro g
    refine .one h1 h2 h3 h4 (h5.behind U) (ih ?_)
    rw [List.length_cons] at g
    rwa [Nat.add_assoc, Nat.add_comm 1]
theorem Tys.few {n : Nat} {T : List Tok} {l : List Ty} (h : Tys E n T l) : n + l.length ≤ max n 8 := by
  induction h with
  | fin => simp; omega
  | one h1 _ _ _ _ _ ih => rw [List.length_cons]; omega
theorem Tys.from {n : Nat} {T : List Tok} {l : List Ty} (h : Tys E n T l) : ∀ k, k + l.length ≤ 8 → Tys E k T l := by
  induction h with
  | fin => intro k _; exact .fin
  | one h1 h2 h3 h4 h5 _ ih => intro k hk; rw [List.length_cons] at hk; exact .one (by omega) h2 h3 h4 h5 (ih (k + 1) (by omega))
/-! ## other names -/
/-- names to names, and all else stays -/
structure Ren (f : Wd → Wd) : Prop where
  name : ∀ w, nameB w = true → nameB (f w) = true
  else_ : ∀ w, nameB w = false → f w = w
variable {f : Wd → Wd}
def renX (f : Wd → Wd) : X → X → Prop
  | .num _ n, .num _ m => n = m
  | .name _ s, .name _ t => t = f s
  | .bin _ op l r, .bin _ op' l' r' => op' = op ∧ renX f l l' ∧ renX f r r'
  | _, _ => False
theorem mark_name {w : Wd} {c : UInt8} {r : Wd} (h : w = c :: r) (hc : Lex.letter c.toNat = false) : nameB w = false := by
  subst h
  unfold nameB lettered
  simp only []
  rw [hc]; rfl
theorem Ren.first (hf : Ren f) {w : Wd} (h : lettered w = false) : f w = w := by
  refine hf.else_ w ?_
  unfold nameB
  rw [h]; rfl
theorem Ren.lev (hf : Ren f) (k : Nat) (w : Wd) : w ∈ levels k → f w = w := by
  intro h
  refine hf.first ?_
  cases w with
  | nil => rfl
  | cons c r => exact level_letter k (c :: r) h c r rfl
theorem Ren.lev_iff (hf : Ren f) (k : Nat) (w : Wd) : f w ∈ levels k ↔ w ∈ levels k := by
  constructor
  · intro h
    by_cases hn : nameB w = true
    · have h2 := hf.name w hn
      cases hw : f w with
      | nil => rw [hw] at h2; exact absurd h2 (by decide)
      | cons c r =>
        rw [hw] at h h2
        have := level_letter k (c :: r) h c r rfl
        rw [mark_name rfl this] at h2
        cases h2
    · rwa [hf.else_ w (by simpa using hn)] at h
  · intro h; rwa [hf.lev k w h]
theorem Ren.letter (hf : Ren f) {w : Wd} {c : UInt8} {r : Wd} (h : w = c :: r) (hl : Lex.letter c.toNat = true) (h12 : w.length ≤ 12) : ∃ c' r', f w = c' :: r' ∧ Lex.letter c'.toNat = true ∧ (f w).length ≤ 12 := by
  by_cases hn : nameB w = true
  · have h2 := hf.name w hn
    unfold nameB at h2
    simp only [Bool.and_eq_true, decide_eq_true_eq] at h2
    cases hw : f w with
    | nil => rw [hw] at h2; exact absurd h2.1.1 (by decide)
    | cons c' r' => rw [hw] at h2; exact ⟨c', r', rfl, h2.1.1, h2.2⟩
  · rw [hf.else_ w (by simpa using hn)]
    exact ⟨c, r, h, hl, h12⟩
theorem mapf {S T : List Tok} {t : Tok} (h : S.map Prod.fst = (t :: T).map fun u => f u.1) : ∃ s S', S = s :: S' ∧ s.1 = f t.1 ∧ S'.map Prod.fst = T.map fun u => f u.1 := by
  rw [List.map_cons] at h
  exact map1 h
theorem renX_bin {x y l l' : X} {a a' : Nat} {op : Wd} (h1 : renX f x l) (h2 : renX f y l') : renX f (.bin a op x y) (.bin a' op l l') := ⟨rfl, h1, h2⟩
theorem Par.ren (hf : Ren f) {c : Cat} {d : Nat} {T : List Tok} {o : Out} (h : Par Num.numOf E c d T o) : ∀ x R S, o = .ok x R → S.map Prod.fst = (T.map fun u => f u.1) → ∀ c', (match c, c' with | .lev k, .lev k' => k = k' | .one, .one => True | .loop k y, .loop k' y' => k = k' ∧ renX f y y' | _, _ => False) →
    ∃ x' R', renX f x x' ∧ R'.map Prod.fst = (R.map fun u => f u.1) ∧ Par Num.numOf E' c' d S (.ok x' R') := by
  induction h with
  | top _ ih =>
    intro x R S e hS c' hc
    cases c' with
    | lev k' =>
      subst hc
      obtain ⟨x', R', h1, h2, h3⟩ := ih x R S e hS .one trivial
      exact ⟨x', R', h1, h2, .top h3⟩
    | loop => exact hc.elim
    | one => exact hc.elim
  | lev hk h1 h2 ih1 ih2 =>
    intro x R S e hS c' hc
    cases c' with
    | lev k' =>
      subst hc
      obtain ⟨y', R', g1, g2, g3⟩ := ih1 _ _ S rfl hS (.lev _) rfl
      obtain ⟨x', R2, g4, g5, g6⟩ := ih2 x R R' e g2 (.loop _ y') ⟨rfl, g1⟩
      exact ⟨x', R2, g4, g5, .lev hk g3 g6⟩
    | loop => exact hc.elim
    | one => exact hc.elim
  | levBad => intro x R S e; cases e
  | @done k x d T h =>
    intro y R S e hS c' hc
    cases e
    cases c' with
    | lev => exact hc.elim
    | one => exact hc.elim
    | loop k' y' =>
      obtain ⟨rfl, hy⟩ := hc
      refine ⟨y', S, hy, hS, .done ?_⟩
      intro t S' e
      subst e
      cases T with
      | nil => cases hS
      | cons u T =>
        obtain ⟨s, S2, e1, e2, _⟩ := mapf hS
        cases e1
        rw [e2, hf.lev_iff]
        exact h _ _ rfl
  | more h1 h2 h3 ih1 ih2 =>
    intro x R S e hS c' hc
    cases c' with
    | lev => exact hc.elim
    | one => exact hc.elim
    | loop k' y' =>
      obtain ⟨rfl, hy⟩ := hc
      obtain ⟨s, S2, rfl, e2, hS2⟩ := mapf hS
      obtain ⟨z', R', g1, g2, g3⟩ := ih1 _ _ S2 rfl hS2 (.lev _) rfl
      have e3 := hf.lev _ _ h1
      rw [e3] at e2
      obtain ⟨x', R2, g4, g5, g6⟩ := ih2 x R R' e g2 (.loop _ (.bin s.2 s.1 y' z')) ⟨rfl, e2, hy, g1⟩
      exact ⟨x', R2, g4, g5, .more (by rw [e2]; exact h1) g3 g6⟩
  | moreBad => intro x R S e; cases e
  | paren h1 h2 h3 h4 ih =>
    intro x R S e hS c' hc
    cases e
    cases c' with
    | lev => exact hc.elim
    | loop => exact hc.elim
    | one =>
      obtain ⟨s, S2, rfl, e2, hS2⟩ := mapf hS
      obtain ⟨x', R', g1, g2, g3⟩ := ih _ _ S2 rfl hS2 (.lev 0) rfl
      obtain ⟨s2, S3, rfl, e3, hS3⟩ := mapf g2
      rw [h1, hf.first (w := [40]) (by decide)] at e2
      rw [h4, hf.first (w := [41]) (by decide)] at e3
      exact ⟨x', S3, g1, hS3, .paren e2 h2 g3 e3⟩
  | parenNone => intro x R S e; cases e
  | parenBad => intro x R S e; cases e
  | deep => intro x R S e; cases e
  | name h1 h2 h3 =>
    intro x R S e hS c' hc
    cases e
    cases c' with
    | lev => exact hc.elim
    | loop => exact hc.elim
    | one =>
      obtain ⟨s, S2, rfl, e2, hS2⟩ := mapf hS
      obtain ⟨c', r', g1, g2, g3⟩ := hf.letter h1 h2 h3
      rw [← e2] at g1 g3
      exact ⟨.name s.2 s.1, S2, e2, hS2, .name g1 g2 g3⟩
  | nameLong => intro x R S e; cases e
  | none => intro x R S e; cases e
  | mark => intro x R S e; cases e
  | @num d t T c r n h1 h2 h3 =>
    intro x R S e hS c' hc
    cases e
    cases c' with
    | lev => exact hc.elim
    | loop => exact hc.elim
    | one =>
      obtain ⟨s, S2, rfl, e2, hS2⟩ := mapf hS
      have hl : Lex.letter c.toNat = false := by
        cases hb : Lex.letter c.toNat with
        | false => rfl
        | true => exact (Par.det.let_dig hb h2).elim
      rw [hf.first (w := t.1) (by rw [h1]; exact hl)] at e2
      exact ⟨.num s.2 n, S2, rfl, hS2, .num (by rw [e2]; exact h1) h2 (by rw [e2]; exact h3)⟩
  | numBad => intro x R S e; cases e
end Tm
end Go.Proofs.YtlpkebngehmimaaGreatDoor
end
