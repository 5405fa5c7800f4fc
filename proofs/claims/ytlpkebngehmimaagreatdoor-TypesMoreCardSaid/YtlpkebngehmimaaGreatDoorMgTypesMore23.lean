/- What tmpl.item holds: the reader, the result's box, the item's box. -/
import Derived.Test.YtlpkebngehmimaaGreatDoorMgTypesMore22
import Derived.Test.YtlpkebngehmimaaGreatDoorMgTypesMore18
section
/- Contract of tmpl.rule. -/
namespace Go.Proofs.YtlpkebngehmimaaGreatDoor
open Go.RowKit
set_option linter.unusedVariables false
set_option linter.unusedSimpArgs false
open Rd
/-- tokens as lex makes them -/
def Toks (T : List Rd.Tok) : Prop := ∀ t ∈ T, t.1 ≠ [] ∧ t.1.length ≤ 100000
theorem Toks.suf {T R : List Rd.Tok} (h : Toks T) (hs : R <:+ T) : Toks R := fun t ht => h t (hs.subset ht)
theorem Toks.text {T : List Rd.Tok} (h : Toks T) : (Tm.textOf T).length ≤ 100000 := by
  cases T with
  | nil => simp [Tm.textOf]
  | cons t T => exact (h t (by simp)).2
theorem rule_any (w0 w : World) (rb xb E : Nat) (T : List Rd.Tok) (c : C10) (st : RuSt w0 w rb xb E T c 0 [] []) (hT : Toks T) :
    Calls Tryz.prog 76 #[.pointer (some ⟨rb, 0, none⟩), .pointer (some ⟨xb, 0, none⟩)] w fun e w' => (∃ r R, Tm.RuleP T r R ∧ e = .returned (.tuple #[]) ∧ RuSt w0 w' rb xb E R c (ruleV r).1 (ruleV r).2.1 (ruleV r).2.2) ∨ ((∀ r R, ¬ Tm.RuleP T r R) ∧ Bad w0 rb e w') := by
  by_cases h1 : Tm.textOf T = Tm.wSize
  · cases T with
    | nil => exact absurd h1 (by decide)
    | cons t R1 =>
      refine (rule_size w0 w rb xb E t R1 c st h1 (hT.suf (List.suffix_cons _ _)).text).mono ?_
      rintro e w' (⟨u, R2, rfl, g1, g2, g3⟩ | ⟨g1, g2⟩)
      · exact .inl ⟨.size u.1, R2, .size h1 g1, g2, g3⟩
      · refine .inr ⟨?_, g2⟩
        intro r R h
        cases h with
        | size _ k => exact absurd (k.symm.trans g1) (by decide)
        | count k => rw [show t.1 = Tm.wSize from h1] at k; exact absurd k (by decide)
        | check1 k => rw [show t.1 = Tm.wSize from h1] at k; exact absurd k (by decide)
        | check2 k => rw [show t.1 = Tm.wSize from h1] at k; exact absurd k (by decide)
  · by_cases h2 : Tm.textOf T = Tm.wCount
    · cases T with
      | nil => exact absurd h2 (by decide)
      | cons t R1 =>
        refine (rule_count w0 w rb xb E t R1 c st h2 (hT.suf (List.suffix_cons _ _)).text).mono ?_
        rintro e w' (⟨u, R2, rfl, g1, g2, g3⟩ | ⟨g1, g2⟩)
        · exact .inl ⟨.count u.1, R2, .count h2 g1, g2, g3⟩
        · refine .inr ⟨?_, g2⟩
          intro r R h
          cases h with
          | count _ k => exact absurd (k.symm.trans g1) (by decide)
          | size k => rw [show t.1 = Tm.wCount from h2] at k; exact absurd k (by decide)
          | check1 k => rw [show t.1 = Tm.wCount from h2] at k; exact absurd k (by decide)
          | check2 k => rw [show t.1 = Tm.wCount from h2] at k; exact absurd k (by decide)
    · by_cases h3 : Tm.textOf T = Tm.wCheck
      · cases T with
        | nil => exact absurd h3 (by decide)
        | cons t R1 =>
          refine (rule_check w0 w rb xb E t R1 c st h3 (fun u hu => (hT u (by simp [hu])).2)).mono ?_
          rintro e w' (⟨l, R3, g1, g2, g3⟩ | g)
          · exact .inl ⟨_, R3, g1, g2, g3⟩
          · exact .inr g
      · exact (rule_else w0 w rb xb E T c st (fun t ht => (hT t ht).1) h1 h2 h3).mono fun e w' h => .inr h
end Go.Proofs.YtlpkebngehmimaaGreatDoor
end
section
/- expr.Read and Must, told as a choice. -/
namespace Go.Proofs.YtlpkebngehmimaaGreatDoor
open Go.RowKit
set_option linter.unusedVariables false
set_option linter.unusedSimpArgs false
open Rd
theorem exprRead_any (w : World) (rb E : Nat) (T : List Rd.Tok) (he : Env w rb) (hr : Rdr w rb T E) (hT : Toks T) :
    Calls Tryz.prog 75 #[.pointer (some ⟨rb, 0, none⟩), .int .i64 0] w fun e w' => (∃ x R b, Tm.ParT E T x R ∧ e = .returned (.pointer (some ⟨b, 0, none⟩)) ∧ IsX w' rb b x ∧ Rdr w' rb R E ∧ w.grownBy w' (some rb)) ∨ ((∀ x R, ¬ Tm.ParT E T x R) ∧ Bad w rb e w') := by
  obtain ⟨o, ho⟩ := Ex.total (num := Num.numOf) (E := E) T.length T 0 (Nat.le_refl _) (fun t ht => (hT t ht).1) (by omega) 0 (by omega)
  have h := Read_any ho rb (fun t ht => (hT t ht).2) w he hr
  refine Calls.mono h ?_
  intro e w' hp
  cases o with
  | ok x R =>
    obtain ⟨b, h1, h2, h3, h4⟩ := hp
    exact .inl ⟨x, R, b, ho, h1, h2, h3, h4⟩
  | bad en p =>
    obtain ⟨g, h1, h2, h3, h4⟩ := hp
    refine .inr ⟨?_, g, en, p, h1, h2, h3, h4⟩
    intro x R h9
    have := Tm.Par.det ho _ h9
    cases this
/-- a mark that must come -/
theorem must_any (w : World) (rb E : Nat) (T : List Rd.Tok) (m : Tm.Wd) (hm : m ≠ []) (hr : Rdr w rb T E) :
    Calls Tryz.prog 25 #[.pointer (some ⟨rb, 0, none⟩), .string (bstr m)] w fun e w' => (∃ t R, T = t :: R ∧ t.1 = m ∧ e = .returned (.tuple #[]) ∧ Rdr w' rb R E ∧ w.grownBy w' (some rb)) ∨ (Tm.textOf T ≠ m ∧ Bad w rb e w') := by
  have hto : textOf T = Tm.textOf T := by cases T <;> rfl
  by_cases h : Tm.textOf T = m
  · cases T with
    | nil => exact absurd h.symm hm
    | cons t R =>
      have h2 : t.1 = m := h
      subst h2
      exact (Must_yes rb t R E w hr hm).mono fun e w' h => .inl ⟨t, R, rfl, rfl, h⟩
  · refine (Must_no rb T E m w hr hm (by rw [hto]; exact h)).mono ?_
    rintro e w' ⟨h1, h2, h3⟩
    exact .inr ⟨h, w.heap.size, 3, _, h1, h2, Nat.le_refl _, below_grown h3 _⟩
/-- a name, or none -/
theorem name_any (w : World) (rb E : Nat) (T : List Rd.Tok) (hr : Rdr w rb T E) (hT : Toks T) :
    Calls Tryz.prog 26 #[.pointer (some ⟨rb, 0, none⟩)] w fun e w' => (∃ u R, T = u :: R ∧ Tm.nameB u.1 = true ∧ e = .returned (.string (bstr u.1)) ∧ Rdr w' rb R E ∧ w.grownBy w' (some rb)) ∨ (Tm.nameB (Tm.textOf T) = false ∧ Bad w rb e w') := by
  by_cases h : Tm.nameB (Tm.textOf T) = true
  · cases T with
    | nil => exact absurd h (by decide)
    | cons u R => exact (name_yes rb u R E w hr h).mono fun e w' g => .inl ⟨u, R, rfl, h, g⟩
  · have h2 : Tm.nameB (Tm.textOf T) = false := by simpa using h
    exact (name_no rb T E w hr h2 hT.text).mono fun e w' g => .inr ⟨h2, g⟩
end Go.Proofs.YtlpkebngehmimaaGreatDoor
end
section
/- Templates in plain words: an item as the parser goes through it; what each step asks. -/
namespace Go.Proofs.YtlpkebngehmimaaGreatDoor
set_option linter.unusedVariables false
set_option linter.unusedSimpArgs false
namespace Tm
open Ex
variable {E d : Nat}
/-- a block with its braces -/
def BlkP (E d : Nat) (T : List Tok) (l : Its) (R : List Tok) : Prop := ∃ b T2, T = b :: T2 ∧ b.1 = [123] ∧ d ≤ 8 ∧ Blk E d 0 T2 l R
/-- one item -/
inductive ItmP (E d : Nat) : List Tok → Its → List Tok → Prop where
  | hd {T R : List Tok} {h : Hd} : HdP E T h R → ItmP E d T (.cons h .nil) R
  | when {t : Tok} {T U R : List Tok} {c : X} {body : Its} : t.1 = wWhen → ParT E T c U → BlkP E (d + 1) U body R → ItmP E d (t :: T) (.when t.2 c body .nil) R
theorem hd_name {t : Tok} {T R : List Tok} {a : Hd} (h : HdP E (t :: T) a R) : nameB (textOf T) = true := by
  cases h with
  | mk h1 h2 h3 h4 => exact h2
theorem hd_knd {t : Tok} {T R : List Tok} {a : Hd} (h : HdP E (t :: T) a R) : (kindOf t.1).isSome = true ∨ t.1 = wBytes ∨ nameB t.1 = true := by
  cases h with
  | mk h1 h2 h3 h4 =>
    cases h1 with
    | scalar h => exact .inl h
    | bytes h => exact .inr (.inl h)
    | struct h => exact .inr (.inr h)
theorem bytes_kind : kindOf wBytes = none ∧ nameB wBytes = false := by decide
theorem hd_bytes {t n : Tok} {T R : List Tok} {a : Hd} (h : HdP E (t :: n :: T) a R) (ht : t.1 = wBytes) : textOf T = [91] := by
  cases h with
  | mk h1 h2 h3 h4 =>
    cases h1 with
    | scalar h => rw [ht, bytes_kind.1] at h; cases h
    | struct h => rw [ht, bytes_kind.2] at h; cases h
    | bytes h =>
      cases h3 with
      | cnt hc hb =>
        cases hc with
        | no => exact absurd rfl (hb rfl)
        | yes h5 h6 h7 => exact h5
theorem hd_cnt {t n o : Tok} {T R : List Tok} {a : Hd} (h : HdP E (t :: n :: o :: T) a R) (ho : o.1 = [91]) : ∃ x c R', ParT E T x (c :: R') ∧ c.1 = [93] ∧ textOf R' = [59] := by
  cases h with
  | mk h1 h2 h3 h4 =>
    cases h3 with
    | cnt hc hb =>
      cases hc with
      | no h5 => exact absurd ho h5
      | yes h5 h6 h7 => exact ⟨_, _, _, h6, h7, h4⟩
    | rule h5 h6 => rw [ho] at h5; exact absurd h5 (by decide)
theorem hd_rule {t n o : Tok} {T R : List Tok} {a : Hd} (h : HdP E (t :: n :: o :: T) a R) (ho : o.1 = [61]) : ∃ r R', RuleP T r R' ∧ textOf R' = [59] := by
  cases h with
  | mk h1 h2 h3 h4 =>
    cases h3 with
    | cnt hc hb =>
      cases hc with
      | no h5 => rw [ho] at h4; exact absurd h4 (by decide)
      | yes h5 h6 h7 => rw [ho] at h5; exact absurd h5 (by decide)
    | rule h5 h6 => exact ⟨_, _, h6, h4⟩
theorem hd_semi {t n : Tok} {T R : List Tok} {a : Hd} (h : HdP E (t :: n :: T) a R) (h1 : textOf T ≠ [91]) (h2 : (kindOf t.1).isSome = true → textOf T ≠ [61]) : textOf T = [59] := by
  cases h with
  | mk h3 _ h5 h6 =>
    cases h5 with
    | cnt hc hb =>
      cases hc with
      | no _ => exact h6
      | yes h7 _ _ => exact absurd h7 h1
    | rule h7 h8 =>
      cases h3 with
      | scalar hk => exact absurd h7 (h2 hk)
theorem hd_nil {R : List Tok} {a : Hd} (h : HdP E [] a R) : False := by cases h
theorem itm_hd {T R : List Tok} {I : Its} (h : ItmP E d T I R) (ht : textOf T ≠ wWhen) : ∃ a, I = .cons a .nil ∧ HdP E T a R := by
  cases h with
  | hd h => exact ⟨_, rfl, h⟩
  | when h => exact absurd h ht
theorem itm_when {t : Tok} {T R : List Tok} {I : Its} (h : ItmP E d (t :: T) I R) (ht : t.1 = wWhen) : ∃ c U body, ParT E T c U ∧ BlkP E (d + 1) U body R := by
  cases h with
  | hd h => exact absurd ht h.no.2
  | when _ h2 h3 => exact ⟨_, _, _, h2, h3⟩
theorem BlkP.suf {T R : List Tok} {l : Its} (h : BlkP E d T l R) : R <:+ T ∧ R.length < T.length := by
  obtain ⟨b, T2, rfl, h1, h2, h3⟩ := h
  exact ⟨suf_cons h3.suf.1, by have := h3.suf.2; simp; omega⟩
theorem ItmP.suf {T R : List Tok} {I : Its} (h : ItmP E d T I R) : R <:+ T ∧ R.length < T.length := by
  cases h with
  | hd h => exact h.suf
  | when h1 h2 h3 => exact ⟨suf_cons (h3.suf.1.trans h2.suf.1), by have := h3.suf.2; have := h2.suf.2; simp; omega⟩
theorem BlkP.det {T R R' : List Tok} {l l' : Its} (h : BlkP E d T l R) (h' : BlkP E d T l' R') : l = l' ∧ R = R' := by
  obtain ⟨b, T2, rfl, h1, h2, h3⟩ := h
  obtain ⟨b', T2', e, h1', h2', h3'⟩ := h'
  cases e
  exact h3.det _ _ h3'
theorem ItmP.det {T R R' : List Tok} {I I' : Its} (h : ItmP E d T I R) (h' : ItmP E d T I' R') : I = I' ∧ R = R' := by
  cases h with
  | hd h =>
    obtain ⟨a, rfl, h2⟩ := itm_hd h' h.no.2
    obtain ⟨rfl, rfl⟩ := h.det h2
    exact ⟨rfl, rfl⟩
  | when h1 h2 h3 =>
    cases h' with
    | hd h => exact absurd h1 h.no.2
    | when _ h4 h5 =>
      obtain ⟨rfl, rfl⟩ := ParT.det h2 h4
      obtain ⟨rfl, rfl⟩ := h3.det h5
      exact ⟨rfl, rfl⟩
def Its.app : Its → Its → Its
  | .nil, m => m
  | .cons h l, m => .cons h (l.app m)
  | .when a c b l, m => .when a c b (l.app m)
def Its.len : Its → Nat
  | .nil => 0
  | .cons _ l => l.len + 1
  | .when _ _ _ l => l.len + 1
theorem app_len (l m : Its) : (l.app m).len = l.len + m.len := by
  induction l with
  | nil => simp [Its.app, Its.len]
  | cons h l ih => simp only [Its.app, Its.len, ih]; omega
  | when a c b l _ ih => simp only [Its.app, Its.len, ih]; omega
theorem app_nil (l : Its) : l.app .nil = l := by
  induction l with
  | nil => rfl
  | cons h l ih => rw [Its.app, ih]
  | when a c b l _ ih => rw [Its.app, ih]
theorem app_assoc (l m k : Its) : (l.app m).app k = l.app (m.app k) := by
  induction l with
  | nil => rfl
  | cons h l ih => simp only [Its.app, ih]
  | when a c b l _ ih => simp only [Its.app, ih]
theorem ItmP.one {T R : List Tok} {I : Its} (h : ItmP E d T I R) : I.len = 1 := by
  cases h <;> rfl
/-- an item, and the rest of the block -/
theorem blk_item {n : Nat} {T R R2 : List Tok} {I l : Its} (hn : n < 16) (h : ItmP E d T I R) (h2 : Blk E d (n + 1) R l R2) : Blk E d n T (I.app l) R2 := by
  cases h with
  | hd h => exact .item hn h h2
  | when h1 h3 h4 =>
    obtain ⟨b, T2, rfl, h5, h6, h7⟩ := h4
    exact .when hn h1 h3 h5 h6 h7 h2
/-- what a block's rest begins with -/
theorem blk_split {n : Nat} {T R2 : List Tok} {L : Its} (h : Blk E d n T L R2) : (textOf T = [125] ∧ L = .nil) ∨ (textOf T ≠ [125] ∧ n < 16 ∧ ∃ I R l, ItmP E d T I R ∧ Blk E d (n + 1) R l R2 ∧ L = I.app l) := by
  cases h with
  | fin h => exact .inl ⟨h, rfl⟩
  | item h1 h2 h3 => exact .inr ⟨h2.no.1, h1, _, _, _, .hd h2, h3, rfl⟩
  | when h1 h2 h3 h4 h5 h6 h7 => exact .inr ⟨by intro e; exact absurd (h2.symm.trans e) (by decide), h1, _, _, _, .when h2 h3 ⟨_, _, rfl, h4, h5, h6⟩, h7, rfl⟩
end Tm
end Go.Proofs.YtlpkebngehmimaaGreatDoor
end
section
/- Items in memory. -/
namespace Go.Proofs.YtlpkebngehmimaaGreatDoor
open Go.RowKit
set_option linter.unusedVariables false
set_option linter.unusedSimpArgs false
open Rd
namespace Tm
def kindN : Knd → Nat
  | .scalar _ => 1
  | .bytes => 2
  | .struct _ => 3
def kindT : Knd → Wd
  | .struct t => t
  | _ => []
def kindW (k : Knd) : Nat × Nat × Bool := match k with
  | .scalar w => kindV w
  | _ => (0, 0, false)
def manyB (h : Hd) : Bool := match h.k, h.cnt with
  | .bytes, _ => false
  | _, some _ => true
  | _, none => false
/-- an expression that may not be there -/
def CntV (w : World) (rb : Nat) : Option Ex.X → Value → Prop
  | none, v => v = .pointer none
  | some x, v => ∃ b, v = .pointer (some ⟨b, 0, none⟩) ∧ IsX w rb b x
def hdCells (h : Hd) (cv : Value) : List Value :=
  [.int .i64 (kindN h.k : Nat), .int .i64 (h.at_ : Nat), .string (bstr h.name), .string (bstr (kindT h.k)), .int .i64 ((kindW h.k).1 : Nat), .int .i64 ((kindW h.k).2.1 : Nat), .bool (kindW h.k).2.2, .bool (manyB h), cv,
    .int .i64 ((ruleV h.rule).1 : Nat), .string (bstr (ruleV h.rule).2.1), .string (bstr (ruleV h.rule).2.2), .slice none 0 0]
def whenCells (a : Nat) (cv sv : Value) : List Value :=
  [.int .i64 4, .int .i64 (a : Nat), .string (bstr []), .string (bstr []), .int .i64 0, .int .i64 0, .bool false, .bool false, cv, .int .i64 0, .string (bstr []), .string (bstr []), sv]
/-- items as a row of cells; bodies lie in rows of their own, which are 'ok' -/
def Enc (w : World) (rb : Nat) (ok : Nat → Prop) : Its → List Value → Prop
  | .nil, vs => vs = []
  | .cons h l, vs => ∃ cv us, CntV w rb h.cnt cv ∧ vs = hdCells h cv ++ us ∧ Enc w rb ok l us
  | .when a c b l, vs => ∃ cb ga cap bs us, IsX w rb cb c ∧ Owns w (rb + 1) 88 13 ga b.len cap bs ∧ (∀ x, ga = some x → ok x.block) ∧ Enc w rb ok b bs ∧ vs = whenCells a (.pointer (some ⟨cb, 0, none⟩)) (.slice ga b.len cap) ++ us ∧ Enc w rb ok l us
theorem Enc.mono {w : World} {rb : Nat} {ok ok' : Nat → Prop} (h : ∀ b, ok b → ok' b) : ∀ (l : Its) (vs : List Value), Enc w rb ok l vs → Enc w rb ok' l vs
  | .nil, vs, e => e
  | .cons a l, vs, e => by
    obtain ⟨cv, us, h1, h2, h3⟩ := e
    exact ⟨cv, us, h1, h2, Enc.mono h l us h3⟩
  | .when a c b l, vs, e => by
    obtain ⟨cb, ga, cap, bs, us, h1, h2, h3, h4, h5, h6⟩ := e
    exact ⟨cb, ga, cap, bs, us, h1, h2, fun x hx => h _ (h3 x hx), Enc.mono h b bs h4, h5, Enc.mono h l us h6⟩
theorem Enc.grown {w w' : World} {rb : Nat} {ok : Nat → Prop} (hg : w.grownBy w' (some rb)) : ∀ (l : Its) (vs : List Value), Enc w rb ok l vs → Enc w' rb ok l vs
  | .nil, vs, e => e
  | .cons a l, vs, e => by
    obtain ⟨cv, us, h1, h2, h3⟩ := e
    refine ⟨cv, us, ?_, h2, Enc.grown hg l us h3⟩
    cases hc : a.cnt with
    | none => rw [hc] at h1; exact h1
    | some x =>
      rw [hc] at h1
      obtain ⟨b, h4, h5⟩ := h1
      exact ⟨b, h4, IsX.grown hg x b h5⟩
  | .when a c b l, vs, e => by
    obtain ⟨cb, ga, cap, bs, us, h1, h2, h3, h4, h5, h6⟩ := e
    refine ⟨cb, ga, cap, bs, us, IsX.grown hg c cb h1, h2.grown hg fun x hx e => ?_, h3, Enc.grown hg b bs h4, h5, Enc.grown hg l us h6⟩
    subst hx
    have := h2.lt.1
    injection e with e
    omega
theorem hdCells_len (h : Hd) (cv : Value) : (hdCells h cv).length = 13 := rfl
theorem whenCells_len (a : Nat) (cv sv : Value) : (whenCells a cv sv).length = 13 := rfl
theorem Enc.len {w : World} {rb : Nat} {ok : Nat → Prop} : ∀ (l : Its) (vs : List Value), Enc w rb ok l vs → vs.length = l.len * 13
  | .nil, vs, e => by rw [show vs = [] from e]; rfl
  | .cons a l, vs, e => by
    obtain ⟨cv, us, h1, rfl, h3⟩ := e
    rw [List.length_append, hdCells_len, Enc.len l us h3, Its.len]; omega
  | .when a c b l, vs, e => by
    obtain ⟨cb, ga, cap, bs, us, h1, h2, h3, h4, rfl, h6⟩ := e
    rw [List.length_append, whenCells_len, Enc.len l us h6, Its.len]; omega
end Tm
end Go.Proofs.YtlpkebngehmimaaGreatDoor
end
section
/- What tmpl.item holds: the reader, the result's box, the item's box. -/
namespace Go.Proofs.YtlpkebngehmimaaGreatDoor
open Go.RowKit
set_option linter.unusedVariables false
set_option linter.unusedSimpArgs false
open Rd
/-- w0: the world at item's begin; yb: the result's box; xb: the item's box with the cells cs -/
structure ItSt (w0 w : World) (rb yb xb E : Nat) (R : List Rd.Tok) (ys cs : List Value) : Prop where
  gr : w0.grownBy w (some rb)
  env : Env w rb
  ylo : w0.heap.size ≤ yb
  xlo : w0.heap.size ≤ xb
  ne : xb ≠ yb
  lt : rb < w0.heap.size
  rd : Rdr w rb R E
  yrow : RowAt w yb 0 88 ys
  row : RowAt w xb 0 88 cs
  gy : ∃ wy : World, wy.heap.size ≤ xb ∧ RowAt wy yb 0 88 ys ∧ w0.grownBy wy (some rb) ∧ wy.grownBy w (some rb)
section
variable {w0 w w' : World} {rb yb xb E : Nat} {R R' : List Rd.Tok} {ys cs : List Value}
theorem ItSt.move (h : ItSt w0 w rb yb xb E R ys cs) (hr : Rdr w' rb R' E) (hg : w.grownBy w' (some rb)) : ItSt w0 w' rb yb xb E R' ys cs :=
  ⟨grownBy_trans h.gr hg, h.env.grown hg h.rd.lt, h.ylo, h.xlo, h.ne, h.lt, hr,
    h.yrow.of_heap (hg.block yb h.yrow.lt (fun e => by injection e with e; have := h.lt; have := h.ylo; omega)),
    h.row.of_heap (hg.block xb h.row.lt (fun e => by injection e with e; have := h.lt; have := h.xlo; omega)),
    by obtain ⟨wy, h1, h2, h3, h4⟩ := h.gy; exact ⟨wy, h1, h2, h3, grownBy_trans h4 hg⟩⟩
theorem env_set {w : World} {rb xb k : Nat} (h : Env w rb) (hx : rb ≤ xb) (v : Value) : Env (w.setCell ⟨xb, k, none⟩ v) rb := by
  have key : ∀ (p : Addr), p.block < rb → (w.setCell ⟨xb, k, none⟩ v).cell? p = w.cell? p := fun p hlt => World.cell?_of_block (Below.heap_setCell w ⟨xb, k, none⟩ v p.block (by show p.block ≠ xb; omega))
  refine ⟨⟨h.lv.1, fun k hk => ?_⟩, (key ⟨_, 0, none⟩ h.eb).trans h.er, h.eb⟩
  obtain ⟨gk, ck, h1, h2, h3⟩ := h.lv.2 k hk
  exact ⟨gk, ck, (key ⟨_, k, none⟩ h.lv.1).trans h1, h2, fun j hj => (key (gk.add j) (by rw [Addr.add_block]; exact h2)).trans (h3 j hj)⟩
theorem ItSt.set (h : ItSt w0 w rb yb xb E R ys cs) (k : Nat) (hk : k < cs.length) (v : Value) : ItSt w0 (w.setCell ⟨xb, k, none⟩ v) rb yb xb E R ys (cs.set k v) :=
  ⟨up_setX h.gr h.xlo _, env_set h.env (by have := h.lt; have := h.xlo; omega) v, h.ylo, h.xlo, h.ne, h.lt, h.rd.setX (by have := h.lt; have := h.xlo; omega) _,
    h.yrow.of_heap (Below.heap_setCell w ⟨xb, k, none⟩ v yb (fun e => h.ne e.symm)), h.row.set0 k hk v,
    by obtain ⟨wy, h1, h2, h3, h4⟩ := h.gy; exact ⟨wy, h1, h2, h3, up_setX h4 h1 _⟩⟩
theorem ItSt.cell (h : ItSt w0 w rb yb xb E R ys cs) (k : Nat) (hk : k < cs.length) : w.cell? ⟨xb, k, none⟩ = some cs[k] ∧ w.frozen? ⟨xb, k, none⟩ = false := ⟨h.row.cell0 k hk, h.row.frozen0 k hk⟩
def cells0 (a : Nat) : List Value := [.int .i64 0, .int .i64 (a : Nat), .string { data := #[] }, .string { data := #[] }, .int .i64 0, .int .i64 0, .bool false, .bool false, .pointer none, .int .i64 0, .string { data := #[] }, .string { data := #[] }, .slice none 0 0]
theorem ItSt.start (he : Env w rb) (hr : Rdr w rb R E) (a : Nat) : ItSt w ((w.alloc (.cells #[.int .i64 0, .int .i64 0, .string { data := #[] }, .string { data := #[] }, .int .i64 0, .int .i64 0, .bool false, .bool false, .pointer none, .int .i64 0, .string { data := #[] }, .string { data := #[] }, .slice none 0 0] 88)).alloc (.cells #[.int .i64 0, .int .i64 (a : Nat), .string { data := #[] }, .string { data := #[] }, .int .i64 0, .int .i64 0, .bool false, .bool false, .pointer none, .int .i64 0, .string { data := #[] }, .string { data := #[] }, .slice none 0 0] 88)) rb w.heap.size (w.heap.size + 1) E R (cells0 0) (cells0 a) := by
  have h1 := (Below.refl w.heap.size w).alloc (Nat.le_refl _) (.cells #[.int .i64 0, .int .i64 0, .string { data := #[] }, .string { data := #[] }, .int .i64 0, .int .i64 0, .bool false, .bool false, .pointer none, .int .i64 0, .string { data := #[] }, .string { data := #[] }, .slice none 0 0] 88)
  have h2 := h1.alloc (by simp) (.cells #[.int .i64 0, .int .i64 (a : Nat), .string { data := #[] }, .string { data := #[] }, .int .i64 0, .int .i64 0, .bool false, .bool false, .pointer none, .int .i64 0, .string { data := #[] }, .string { data := #[] }, .slice none 0 0] 88)
  have hg := below_grown h2 (some rb)
  refine ⟨hg, he.grown hg hr.lt, Nat.le_refl _, Nat.le_succ _, by omega, hr.lt, hr.below h2, ?_, ?_, ?_⟩
  · exact (RowAt.new w 88 (cells0 0).toArray).alloc _
  · have := RowAt.new (w.alloc (.cells (cells0 0).toArray 88)) 88 (cells0 a).toArray
    rw [World.size_alloc] at this
    exact this
  · refine ⟨w.alloc (.cells (cells0 0).toArray 88), by rw [World.size_alloc]; exact Nat.le_refl _, RowAt.new w 88 (cells0 0).toArray, below_grown h1 _, World.grownBy_alloc _ _ _⟩
/-- .. as tmpl.rule wants it, and back -/
theorem ItSt.rule (h : ItSt w0 w rb yb xb E R ys cs) {c : C10} (hc : cs = c.row 0 [] []) : ∃ wy : World, RuSt wy w rb xb E R c 0 [] [] ∧ w0.grownBy wy (some rb) ∧
    ∀ w' R' r f l, RuSt wy w' rb xb E R' c r f l → ItSt w0 w' rb yb xb E R' ys (c.row r f l) := by
  obtain ⟨wy, h1, h2, h3, h4⟩ := h.gy
  have hlt : rb < xb := by have := h.lt; have := h.xlo; omega
  refine ⟨wy, ⟨h4, h1, hlt, h.rd, by rw [← hc]; exact h.row⟩, h3, ?_⟩
  intro w' R' r f l hs
  have hrlt : rb < wy.heap.size := Nat.lt_of_lt_of_le h.lt h3.size
  have hyb : some yb ≠ some rb := fun e => by injection e with e; have := h.lt; have := h.ylo; omega
  refine ⟨grownBy_trans h3 hs.gr, ?_, h.ylo, h.xlo, h.ne, h.lt, hs.rd, h2.of_heap (hs.gr.block yb h2.lt hyb), hs.row, wy, h1, h2, h3, hs.gr⟩
  have key : ∀ (p : Addr), p.block < rb → w'.cell? p = w.cell? p := fun p hlt =>
    World.cell?_of_block ((hs.gr.block p.block (Nat.lt_trans hlt hrlt) (fun e => by injection e with e; omega)).trans (h4.block p.block (Nat.lt_trans hlt hrlt) (fun e => by injection e with e; omega)).symm)
  have he := h.env
  refine ⟨⟨he.lv.1, fun k hk => ?_⟩, (key ⟨_, 0, none⟩ he.eb).trans he.er, he.eb⟩
  obtain ⟨gk, ck, e1, e2, e3⟩ := he.lv.2 k hk
  exact ⟨gk, ck, (key ⟨_, k, none⟩ he.lv.1).trans e1, e2, fun j hj => (key (gk.add j) (by rw [Addr.add_block]; exact e2)).trans (e3 j hj)⟩
end
end Go.Proofs.YtlpkebngehmimaaGreatDoor
end
