/- Templates in plain words: with other names, or at other places, they are read just so. -/
import Derived.Test.YtlpkebngehmimaaGreatDoorMgTypesMore19
section
/- Templates in plain words: with other names, or at other places, they are read just so. -/
namespace Go.Proofs.YtlpkebngehmimaaGreatDoor
set_option linter.unusedVariables false
set_option linter.unusedSimpArgs false
namespace Tm
open Ex
variable {E E' : Nat} {f : Wd → Wd}
def renO (f : Wd → Wd) : Option X → Option X → Prop
  | none, none => True
  | some a, some b => renX f a b
  | _, _ => False
def renK (f : Wd → Wd) : Knd → Knd
  | .scalar w => .scalar w
  | .bytes => .bytes
  | .struct t => .struct (f t)
def renR (f : Wd → Wd) : Rl → Rl
  | .none => .none
  | .size a => .size (f a)
  | .count a => .count (f a)
  | .check a b => .check (f a) (f b)
def RenH (f : Wd → Wd) (a b : Hd) : Prop := b.k = renK f a.k ∧ b.name = f a.name ∧ renO f a.cnt b.cnt ∧ b.rule = renR f a.rule
inductive RenI (f : Wd → Wd) : Its → Its → Prop where
  | nil : RenI f .nil .nil
  | cons {h h' : Hd} {l l' : Its} : RenH f h h' → RenI f l l' → RenI f (.cons h l) (.cons h' l')
  | when {a a' : Nat} {c c' : X} {b b' l l' : Its} : renX f c c' → RenI f b b' → RenI f l l' → RenI f (.when a c b l) (.when a' c' b' l')
def RenT (f : Wd → Wd) (a b : Ty) : Prop := b.name = f a.name ∧ RenI f a.items b.items
inductive RenTs (f : Wd → Wd) : List Ty → List Ty → Prop where
  | nil : RenTs f [] []
  | cons {a b : Ty} {l m : List Ty} : RenT f a b → RenTs f l m → RenTs f (a :: l) (b :: m)
theorem Ren.mark (hf : Ren f) {w m : Wd} (hm : nameB m = false) : f w = m ↔ w = m := by
  constructor
  · intro h
    by_cases hn : nameB w = true
    · have := hf.name w hn
      rw [h, hm] at this
      cases this
    · rwa [hf.else_ w (by simpa using hn)] at h
  · rintro rfl; exact hf.else_ _ hm
theorem ParT.ren (hf : Ren f) {T R S : List Tok} {x : X} (h : ParT E T x R) (hS : S.map Prod.fst = (T.map fun u => f u.1)) : ∃ x' R', renX f x x' ∧ R'.map Prod.fst = (R.map fun u => f u.1) ∧ ParT E' S x' R' :=
  Par.ren (E' := E') hf h x R S rfl hS (.lev 0) rfl
theorem textf (hf : Ren f) {S T : List Tok} (hS : S.map Prod.fst = (T.map fun u => f u.1)) {m : Wd} (hm : nameB m = false) : textOf S = m ↔ textOf T = m := by
  cases T with
  | nil =>
    rw [List.map_nil] at hS
    obtain rfl := List.map_eq_nil_iff.1 hS
    exact Iff.rfl
  | cons t T =>
    obtain ⟨s, S', rfl, e, _⟩ := mapf hS
    show s.1 = m ↔ t.1 = m
    rw [e, hf.mark hm]
theorem Cnt.ren (hf : Ren f) {T R S : List Tok} {c : Option X} (h : Cnt E T c R) (hS : S.map Prod.fst = (T.map fun u => f u.1)) : ∃ c' R', renO f c c' ∧ R'.map Prod.fst = (R.map fun u => f u.1) ∧ Cnt E' S c' R' := by
  cases h with
  | no h1 => exact ⟨none, S, trivial, hS, .no (by rw [Ne, textf hf hS (by decide)]; exact h1)⟩
  | yes h1 h2 h3 =>
    obtain ⟨s, S1, rfl, e1, hS1⟩ := mapf hS
    obtain ⟨x', R1, g1, g2, g3⟩ := h2.ren (E' := E') hf hS1
    obtain ⟨u, R', rfl, e2, hR'⟩ := mapf g2
    exact ⟨some x', R', g1, hR', .yes (by rw [e1, hf.mark (by decide)]; exact h1) g3 (by rw [e2, hf.mark (by decide)]; exact h3)⟩
theorem RuleP.ren (hf : Ren f) {T R S : List Tok} {r : Rl} (h : RuleP T r R) (hS : S.map Prod.fst = (T.map fun u => f u.1)) : ∃ R', R'.map Prod.fst = (R.map fun u => f u.1) ∧ RuleP S (renR f r) R' := by
  cases h with
  | size h1 h2 =>
    obtain ⟨s, S1, rfl, e1, hS1⟩ := mapf hS
    obtain ⟨u, S2, rfl, e2, hS2⟩ := mapf hS1
    refine ⟨S2, hS2, ?_⟩
    show RuleP _ (.size (f _)) _
    rw [← e2]
    exact .size (by rw [e1, hf.mark (by decide)]; exact h1) (by rw [e2]; exact hf.name _ h2)
  | count h1 h2 =>
    obtain ⟨s, S1, rfl, e1, hS1⟩ := mapf hS
    obtain ⟨u, S2, rfl, e2, hS2⟩ := mapf hS1
    refine ⟨S2, hS2, ?_⟩
    show RuleP _ (.count (f _)) _
    rw [← e2]
    exact .count (by rw [e1, hf.mark (by decide)]; exact h1) (by rw [e2]; exact hf.name _ h2)
  | check1 h1 h2 h3 =>
    obtain ⟨s, S1, rfl, e1, hS1⟩ := mapf hS
    obtain ⟨u, S2, rfl, e2, hS2⟩ := mapf hS1
    refine ⟨S2, hS2, ?_⟩
    show RuleP _ (.check (f _) (f _)) _
    rw [← e2]
    exact .check1 (by rw [e1, hf.mark (by decide)]; exact h1) (by rw [e2]; exact hf.name _ h2) (by rw [textf hf hS2 (by decide)]; exact h3)
  | check2 h1 h2 h3 h4 =>
    obtain ⟨s, S1, rfl, e1, hS1⟩ := mapf hS
    obtain ⟨u, S2, rfl, e2, hS2⟩ := mapf hS1
    obtain ⟨v, S3, rfl, e3, hS3⟩ := mapf hS2
    refine ⟨S3, hS3, ?_⟩
    show RuleP _ (.check (f _) (f _)) _
    rw [← e2, ← e3]
    exact .check2 (by rw [e1, hf.mark (by decide)]; exact h1) (by rw [e2]; exact hf.name _ h2) (by rw [e3, Ne, hf.mark (by decide)]; exact h3) (by rw [e3]; exact hf.name _ h4)
theorem TailP.ren (hf : Ren f) {k : Knd} {T R S : List Tok} {c : Option X} {r : Rl} (h : TailP E k T c r R) (hS : S.map Prod.fst = (T.map fun u => f u.1)) : ∃ c' R', renO f c c' ∧ R'.map Prod.fst = (R.map fun u => f u.1) ∧ TailP E' (renK f k) S c' (renR f r) R' := by
  cases h with
  | cnt h1 h2 =>
    obtain ⟨c', R', g1, g2, g3⟩ := h1.ren (E' := E') hf hS
    refine ⟨c', R', g1, g2, .cnt g3 ?_⟩
    intro e e2
    have hk : k = .bytes := by cases k <;> first | rfl | cases e
    cases c with
    | none => exact h2 hk rfl
    | some x => subst e2; exact g1.elim
  | rule h1 h2 =>
    obtain ⟨s, S1, rfl, e1, hS1⟩ := mapf hS
    obtain ⟨R', g1, g2⟩ := h2.ren hf hS1
    exact ⟨none, R', trivial, g1, .rule (by rw [e1, hf.mark (by decide)]; exact h1) g2⟩
theorem kept_no {w : Wd} (h : keptB w = true) : nameB w = false := by
  unfold nameB
  rw [h]; simp
theorem KndP.ren (hf : Ren f) {t s : Tok} {k : Knd} (h : KndP t k) (hs : s.1 = f t.1) : KndP s (renK f k) := by
  cases h with
  | scalar h1 =>
    have : f t.1 = t.1 := hf.else_ _ (kept_no (by unfold keptB; rw [h1]; rfl))
    show KndP s (.scalar t.1)
    rw [← this, ← hs]
    exact .scalar (by rw [hs, this]; exact h1)
  | bytes h1 => exact .bytes (by rw [hs, hf.mark (by decide)]; exact h1)
  | struct h1 =>
    show KndP s (.struct (f t.1))
    rw [← hs]
    exact .struct (by rw [hs]; exact hf.name _ h1)
theorem HdP.ren (hf : Ren f) {T R S : List Tok} {a : Hd} (h : HdP E T a R) (hS : S.map Prod.fst = (T.map fun u => f u.1)) : ∃ b R', RenH f a b ∧ R'.map Prod.fst = (R.map fun u => f u.1) ∧ HdP E' S b R' := by
  cases h with
  | mk h1 h2 h3 h4 =>
    obtain ⟨t, S1, rfl, e1, hS1⟩ := mapf hS
    obtain ⟨n, S2, rfl, e2, hS2⟩ := mapf hS1
    obtain ⟨c', R1, g1, g2, g3⟩ := h3.ren (E' := E') hf hS2
    obtain ⟨s, R', rfl, e3, hR'⟩ := mapf g2
    exact ⟨⟨t.2, _, n.1, c', _⟩, R', ⟨rfl, e2, g1, rfl⟩, hR', .mk (h1.ren hf e1) (by rw [e2]; exact hf.name _ h2) g3 (by rw [e3, hf.mark (by decide)]; exact h4)⟩
theorem Blk.ren (hf : Ren f) {d n : Nat} {T R : List Tok} {l : Its} (h : Blk E d n T l R) : ∀ S : List Tok, S.map Prod.fst = (T.map fun u => f u.1) → ∃ l' R', RenI f l l' ∧ R'.map Prod.fst = (R.map fun u => f u.1) ∧ Blk E' d n S l' R' := by
  induction h with
  | fin h1 =>
    intro S hS
    obtain ⟨t, S1, rfl, e1, hS1⟩ := mapf hS
    exact ⟨.nil, S1, .nil, hS1, .fin (by rw [e1, hf.mark (by decide)]; exact h1)⟩
  | item h1 h2 _ ih =>
    intro S hS
    obtain ⟨b, R1, g1, g2, g3⟩ := h2.ren (E' := E') hf hS
    obtain ⟨l', R', g4, g5, g6⟩ := ih R1 g2
    exact ⟨.cons b l', R', .cons g1 g4, g5, .item h1 g3 g6⟩
  | when h1 h2 h3 h4 h5 _ _ ih1 ih2 =>
    intro S hS
    obtain ⟨t, S1, rfl, e1, hS1⟩ := mapf hS
    obtain ⟨x', R1, g1, g2, g3⟩ := h3.ren (E' := E') hf hS1
    obtain ⟨b, R2, rfl, e2, hR2⟩ := mapf g2
    obtain ⟨b', R3, g4, g5, g6⟩ := ih1 R2 hR2
    obtain ⟨l', R', g7, g8, g9⟩ := ih2 R3 g5
    exact ⟨.when t.2 x' b' l', R', .when g1 g4 g7, g8, .when h1 (by rw [e1, hf.mark (by decide)]; exact h2) g3 (by rw [e2, hf.mark (by decide)]; exact h4) h5 g6 g9⟩
theorem Tys.ren (hf : Ren f) {n : Nat} {T : List Tok} {l : List Ty} (h : Tys E n T l) : ∀ S : List Tok, S.map Prod.fst = (T.map fun u => f u.1) → ∃ l', RenTs f l l' ∧ Tys E' n S l' := by
  induction h with
  | fin =>
    intro S hS
    obtain rfl := List.map_eq_nil_iff.1 hS
    exact ⟨[], .nil, .fin⟩
  | one h1 h2 h3 h4 h5 _ ih =>
    intro S hS
    obtain ⟨t, S1, rfl, e1, hS1⟩ := mapf hS
    obtain ⟨m, S2, rfl, e2, hS2⟩ := mapf hS1
    obtain ⟨b, S3, rfl, e3, hS3⟩ := mapf hS2
    obtain ⟨l', R', g1, g2, g3⟩ := h5.ren (E' := E') hf S3 hS3
    obtain ⟨r', g4, g5⟩ := ih R' g2
    exact ⟨⟨m.1, m.2, l'⟩ :: r', .cons ⟨e2, g1⟩ g4, .one h1 (by rw [e1, hf.mark (by decide)]; exact h2) (by rw [e2]; exact hf.name _ h3) (by rw [e3, hf.mark (by decide)]; exact h4) g3 g5⟩
/-! ## names that stay -/
theorem ren_id : Ren id := ⟨fun w h => h, fun w h => rfl⟩
theorem renX_same : ∀ {x y : X}, renX id x y → Same x y
  | .num _ n, .num _ m, h => by cases h; exact .num _ _ _
  | .name _ s, .name _ t, h => by cases h; exact .name _ _ _
  | .bin _ op l r, .bin _ op' l' r', h => by
    obtain ⟨rfl, h1, h2⟩ := h
    exact .bin _ _ _ (renX_same h1) (renX_same h2)
theorem renI_same {l l' : Its} (h : RenI id l l') : SameI l l' := by
  induction h with
  | nil => exact .nil
  | @cons a b l l' hh _ ih =>
    obtain ⟨h1, h2, h3, h4⟩ := hh
    refine .cons ⟨?_, h2.symm, ?_, ?_⟩ ih
    · rw [h1]; cases a.k <;> rfl
    · cases ha : a.cnt with
      | none => rw [ha] at h3; cases hb : b.cnt with
        | none => trivial
        | some y => rw [hb] at h3; exact h3.elim
      | some x => rw [ha] at h3; cases hb : b.cnt with
        | none => rw [hb] at h3; exact h3.elim
        | some y => rw [hb] at h3; exact renX_same h3
    · rw [h4]; cases a.rule <;> rfl
  | when hc _ _ ih1 ih2 => exact .when (renX_same hc) ih1 ih2
theorem renTs_same {l l' : List Ty} (h : RenTs id l l') : SameTs l l' := by
  induction h with
  | nil => exact .nil
  | cons hh _ ih => exact .cons ⟨hh.1.symm, renI_same hh.2⟩ ih
/-- the same texts at other places -/
theorem Tys.shift {n : Nat} {T S : List Tok} {l : List Ty} (h : Tys E n T l) (hS : S.map Prod.fst = T.map Prod.fst) : ∃ l', SameTs l l' ∧ Tys E' n S l' := by
  obtain ⟨l', h1, h2⟩ := h.ren (E' := E') ren_id S hS
  exact ⟨l', renTs_same h1, h2⟩
end Tm
end Go.Proofs.YtlpkebngehmimaaGreatDoor
end
