/- Templates in plain words: what is written is cut into its tokens. -/
import Derived.Test.YtlpkebngehmimaaGreatDoorMgTypesMore15
section
/- Templates in plain words: what tokens are read as, what is written. -/
namespace Go.Proofs.YtlpkebngehmimaaGreatDoor
set_option linter.unusedVariables false
set_option linter.unusedSimpArgs false
namespace Tm
open Ex
abbrev Wd := List UInt8
/-- a name's or a word's text out of letters -/
def wU8 : Wd := [117, 56]
def numWords : List (Wd × Nat × Nat × Bool) :=
  [([117, 56], 1, 0, false), ([105, 56], 1, 0, true),
   ([117, 49, 54, 108, 101], 2, 0, false), ([117, 49, 54, 98, 101], 2, 1, false), ([105, 49, 54, 108, 101], 2, 0, true), ([105, 49, 54, 98, 101], 2, 1, true),
   ([117, 51, 50, 108, 101], 4, 0, false), ([117, 51, 50, 98, 101], 4, 1, false), ([105, 51, 50, 108, 101], 4, 0, true), ([105, 51, 50, 98, 101], 4, 1, true),
   ([105, 54, 52, 108, 101], 8, 0, true), ([105, 54, 52, 98, 101], 8, 1, true)]
def kindOf (w : Wd) : Option (Nat × Nat × Bool) := (numWords.find? fun p => p.1 == w).map (·.2)
def wStruct : Wd := [115, 116, 114, 117, 99, 116]
def wBytes : Wd := [98, 121, 116, 101, 115]
def wWhen : Wd := [119, 104, 101, 110]
def wSize : Wd := [115, 105, 122, 101]
def wCount : Wd := [99, 111, 117, 110, 116]
def wCheck : Wd := [99, 104, 101, 99, 107]
def keptWords : List Wd := [wStruct, wBytes, wWhen, wSize, wCount, wCheck]
def keptB (w : Wd) : Bool := (kindOf w).isSome || keptWords.contains w
def lettered : Wd → Bool
  | [] => false
  | c :: _ => Lex.letter c.toNat
def nameB (w : Wd) : Bool := lettered w && !keptB w && decide (w.length ≤ 12)
inductive Rl where
  | none
  | size (f : Wd)
  | count (f : Wd)
  | check (f l : Wd)
inductive Knd where
  | scalar (w : Wd)
  | bytes
  | struct (t : Wd)
structure Hd where
  at_ : Nat
  k : Knd
  name : Wd
  cnt : Option X
  rule : Rl
inductive Its where
  | nil
  | cons (h : Hd) (l : Its)
  | when (a : Nat) (c : X) (b l : Its)
structure Ty where
  name : Wd
  at_ : Nat
  items : Its
abbrev ParT (E : Nat) (T : List Tok) (x : X) (R : List Tok) : Prop := Par Num.numOf E (.lev 0) 0 T (.ok x R)
def textOf : List Tok → Wd
  | [] => []
  | t :: _ => t.1
inductive Cnt (E : Nat) : List Tok → Option X → List Tok → Prop where
  | no {T} : textOf T ≠ [91] → Cnt E T none T
  | yes {t u : Tok} {T R : List Tok} {c : X} : t.1 = [91] → ParT E T c (u :: R) → u.1 = [93] → Cnt E (t :: T) (some c) R
inductive RuleP : List Tok → Rl → List Tok → Prop where
  | size {t u : Tok} {R : List Tok} : t.1 = wSize → nameB u.1 = true → RuleP (t :: u :: R) (.size u.1) R
  | count {t u : Tok} {R : List Tok} : t.1 = wCount → nameB u.1 = true → RuleP (t :: u :: R) (.count u.1) R
  | check1 {t u : Tok} {R : List Tok} : t.1 = wCheck → nameB u.1 = true → textOf R = [59] → RuleP (t :: u :: R) (.check u.1 u.1) R
  | check2 {t u v : Tok} {R : List Tok} : t.1 = wCheck → nameB u.1 = true → v.1 ≠ [59] → nameB v.1 = true → RuleP (t :: u :: v :: R) (.check u.1 v.1) R
/-- what stands between an item's name and its end -/
inductive TailP (E : Nat) : Knd → List Tok → Option X → Rl → List Tok → Prop where
  | cnt {k : Knd} {T R : List Tok} {c : Option X} : Cnt E T c R → (k = .bytes → c ≠ none) → TailP E k T c .none R
  | rule {w : Wd} {t : Tok} {T R : List Tok} {r : Rl} : t.1 = [61] → RuleP T r R → TailP E (.scalar w) (t :: T) none r R
inductive KndP : Tok → Knd → Prop where
  | scalar {t : Tok} : (kindOf t.1).isSome = true → KndP t (.scalar t.1)
  | bytes {t : Tok} : t.1 = wBytes → KndP t .bytes
  | struct {t : Tok} : nameB t.1 = true → KndP t (.struct t.1)
/-- an item that is no 'when' -/
inductive HdP (E : Nat) : List Tok → Hd → List Tok → Prop where
  | mk {t n s : Tok} {T R : List Tok} {k : Knd} {c : Option X} {r : Rl} : KndP t k → nameB n.1 = true → TailP E k T c r (s :: R) → s.1 = [59] → HdP E (t :: n :: T) ⟨t.2, k, n.1, c, r⟩ R
/-- what is left of a block, so deep, with so many items -/
inductive Blk (E : Nat) : Nat → Nat → List Tok → Its → List Tok → Prop where
  | fin {d n : Nat} {t : Tok} {R : List Tok} : t.1 = [125] → Blk E d n (t :: R) .nil R
  | item {d n : Nat} {T R1 R : List Tok} {h : Hd} {l : Its} : n < 16 → HdP E T h R1 → Blk E d (n + 1) R1 l R → Blk E d n T (.cons h l) R
  | when {d n : Nat} {t b : Tok} {T T2 R1 R : List Tok} {c : X} {body l : Its} : n < 16 → t.1 = wWhen → ParT E T c (b :: T2) → b.1 = [123] → d + 1 ≤ 8 → Blk E (d + 1) 0 T2 body R1 → Blk E d (n + 1) R1 l R → Blk E d n (t :: T) (.when t.2 c body l) R
inductive Tys (E : Nat) : Nat → List Tok → List Ty → Prop where
  | fin {n : Nat} : Tys E n [] []
  | one {n : Nat} {t m b : Tok} {T R : List Tok} {l : Its} {r : List Ty} : n < 8 → t.1 = wStruct → nameB m.1 = true → b.1 = [123] → Blk E 1 0 T l R → Tys E (n + 1) R r → Tys E n (t :: m :: b :: T) (⟨m.1, m.2, l⟩ :: r)
/-- the same but for where it stands -/
def SameO : Option X → Option X → Prop
  | none, none => True
  | some a, some b => Same a b
  | _, _ => False
def SameH (a b : Hd) : Prop := a.k = b.k ∧ a.name = b.name ∧ SameO a.cnt b.cnt ∧ a.rule = b.rule
inductive SameI : Its → Its → Prop where
  | nil : SameI .nil .nil
  | cons {h h' : Hd} {l l' : Its} : SameH h h' → SameI l l' → SameI (.cons h l) (.cons h' l')
  | when {a a' : Nat} {c c' : X} {b b' l l' : Its} : Same c c' → SameI b b' → SameI l l' → SameI (.when a c b l) (.when a' c' b' l')
def SameT (a b : Ty) : Prop := a.name = b.name ∧ SameI a.items b.items
inductive SameTs : List Ty → List Ty → Prop where
  | nil : SameTs [] []
  | cons {a b : Ty} {l m : List Ty} : SameT a b → SameTs l m → SameTs (a :: l) (b :: m)
/-- as text -/
def pad (d : Nat) : Wd := List.replicate (2 * d) 32
def prX (x : X) : Wd := pr Num.dec x
def ptX (x : X) : List Wd := pt Num.dec x
def kndW : Knd → Wd
  | .scalar w => w
  | .bytes => wBytes
  | .struct t => t
def prTail (c : Option X) (r : Rl) : Wd := match c with
  | some c => 91 :: (prX c ++ [93])
  | none => match r with
    | .none => []
    | .size f => [32, 61, 32] ++ wSize ++ 32 :: f
    | .count f => [32, 61, 32] ++ wCount ++ 32 :: f
    | .check f l => if l = f then [32, 61, 32] ++ wCheck ++ 32 :: f else [32, 61, 32] ++ wCheck ++ 32 :: (f ++ 32 :: l)
def ptTail (c : Option X) (r : Rl) : List Wd := match c with
  | some c => [91] :: (ptX c ++ [[93]])
  | none => match r with
    | .none => []
    | .size f => [[61], wSize, f]
    | .count f => [[61], wCount, f]
    | .check f l => if l = f then [[61], wCheck, f] else [[61], wCheck, f, l]
def prH (d : Nat) (h : Hd) : Wd := pad d ++ kndW h.k ++ 32 :: (h.name ++ (prTail h.cnt h.rule ++ [59, 10]))
def ptH (h : Hd) : List Wd := kndW h.k :: h.name :: (ptTail h.cnt h.rule ++ [[59]])
def prI (d : Nat) : Its → Wd
  | .nil => []
  | .cons h l => prH d h ++ prI d l
  | .when _ c b l => pad d ++ (wWhen ++ 32 :: (prX c ++ [32, 123, 10])) ++ (prI (d + 1) b ++ (pad d ++ ([125, 10] ++ prI d l)))
def ptI : Its → List Wd
  | .nil => []
  | .cons h l => ptH h ++ ptI l
  | .when _ c b l => wWhen :: (ptX c ++ [123] :: (ptI b ++ [125] :: ptI l))
def prT (t : Ty) : Wd := wStruct ++ 32 :: (t.name ++ [32, 123, 10]) ++ (prI 1 t.items ++ [125, 10])
def ptT (t : Ty) : List Wd := wStruct :: t.name :: [123] :: (ptI t.items ++ [[125]])
def prTs (l : List Ty) : Wd := l.flatMap prT
def ptTs (l : List Ty) : List Wd := l.flatMap ptT
/-- what may be written -/
def WordOk (w : Wd) : Prop := w ≠ [] ∧ ∀ c ∈ w, Lex.word c = true
def NameOk (w : Wd) : Prop := WordOk w ∧ nameB w = true
def FineX (x : X) : Prop := Fine Num.numOf Num.dec x ∧ deepAt Num.dec x ≤ 8
def FineK : Knd → Prop
  | .scalar w => (kindOf w).isSome = true
  | .bytes => True
  | .struct t => NameOk t
def FineR : Rl → Prop
  | .none => True
  | .size f => NameOk f
  | .count f => NameOk f
  | .check f l => NameOk f ∧ NameOk l
def FineH (h : Hd) : Prop := FineK h.k ∧ NameOk h.name ∧ (∀ c, h.cnt = some c → FineX c ∧ h.rule = .none) ∧ FineR h.rule ∧ (h.k = .bytes → h.cnt ≠ none) ∧ (h.rule ≠ .none → ∃ w, h.k = .scalar w)
def FineI : Its → Prop
  | .nil => True
  | .cons h l => FineH h ∧ FineI l
  | .when _ c b l => FineX c ∧ FineI b ∧ FineI l
def FineT (t : Ty) : Prop := NameOk t.name ∧ FineI t.items
theorem num_word : ∀ p ∈ numWords, WordOk p.1 ∧ lettered p.1 = true := by
  unfold WordOk
  decide
theorem kind_word {w : Wd} (h : (kindOf w).isSome = true) : WordOk w ∧ lettered w = true := by
  unfold kindOf at h
  rw [Option.isSome_map] at h
  obtain ⟨p, hp⟩ := Option.isSome_iff_exists.1 h
  have h1 := List.mem_of_find?_eq_some hp
  have h2 := List.find?_some hp
  rw [beq_iff_eq] at h2
  rw [← h2]
  exact num_word p h1
theorem kept_words : ∀ w ∈ keptWords, WordOk w ∧ lettered w = true ∧ keptB w = true := by
  unfold WordOk
  decide
theorem kndW_ok {k : Knd} (h : FineK k) : WordOk (kndW k) := by
  cases k with
  | scalar w => exact (kind_word h).1
  | bytes => exact (kept_words wBytes (by decide)).1
  | struct t => exact h.1
/-- WHAT IS WRITTEN IS CUT into its tokens, whatever mark or blank comes behind -/
def SepM (r : Wd) : Prop := r = [] ∨ ∃ c t, r = c :: t ∧ Lex.word c = false
theorem texts_wd {x r : Wd} {i : Nat} (hx : WordOk x) (hr : SepM r) : texts (x ++ r) i = (texts r 0).map (x :: ·) := by
  refine texts_word x r i hx.1 hx.2 ?_
  rcases hr with h | h
  · exact .inl (.inl h)
  · exact .inr h
theorem texts_prM : ∀ (x : X), Fine Num.numOf Num.dec x → ∀ (r : Wd) (i : Nat), SepM r → texts (prX x ++ r) i = (texts r 0).map (ptX x ++ ·)
  | .num _ n, h, r, i, hr => by
    unfold prX ptX pr pt
    exact texts_wd ⟨h.1, fun c hc => digit_word c (h.2.1 c hc)⟩ hr
  | .name _ s, h, r, i, hr => by
    unfold prX ptX pr pt
    exact texts_wd ⟨h.1, h.2.2.1⟩ hr
  | .bin _ op l r', h, r, i, hr => by
    obtain ⟨h1, h2, h3⟩ := h
    have part : ∀ (x : X) (b : Bool), Fine Num.numOf Num.dec x → (∀ (r : List UInt8) (i : Nat), SepM r → texts (prX x ++ r) i = (texts r 0).map (ptX x ++ ·)) → ∀ (r : List UInt8) (i : Nat), SepM r →
        texts ((if b then 40 :: (prX x ++ [41]) else prX x) ++ r) i = (texts r 0).map ((if b then [40] :: (ptX x ++ [[41]]) else ptX x) ++ ·) := by
      intro x b hx ih r i hr
      cases b with
      | false => exact ih r i hr
      | true =>
        simp only [if_true]
        rw [List.cons_append, texts_open, List.append_assoc, List.singleton_append, ih _ _ (.inr ⟨41, _, rfl, by decide⟩), texts_shut, Option.map_map, Option.map_map]
        congr 1
        funext z
        simp
    have pl := part l (decide (hold l < opLevel op)) h2 (texts_prM l h2)
    have pr' := part r' (decide (hold r' < opLevel op + 1)) h3 (texts_prM r' h3)
    simp only [decide_eq_true_eq] at pl pr'
    unfold prX ptX at *
    unfold pr pt
    rw [List.append_assoc, List.cons_append, pl _ _ (.inr ⟨32, _, rfl, by decide⟩), texts_blank, List.append_assoc, List.cons_append, texts_op _ _ _ h1, pr' _ _ hr, Option.map_map, Option.map_map]
    congr 1
    funext z
    simp
theorem texts_nl (l : Wd) (i : Nat) : texts (10 :: l) i = texts l 0 := by
  unfold texts
  rw [Lex.lexA_blank 10 l i (.inr (.inl rfl))]
  exact texts_shift l _ _
theorem texts_pad : ∀ (n : Nat) (l : Wd) (i : Nat), texts (List.replicate n 32 ++ l) i = texts l 0
  | 0, l, i => by rw [List.replicate_zero, List.nil_append]; exact texts_shift l _ _
  | n + 1, l, i => by rw [List.replicate_succ, List.cons_append, texts_blank]; exact texts_pad n l 0
theorem texts_ob (r : Wd) (i : Nat) : texts (91 :: r) i = (texts r 0).map ([91] :: ·) := mark_of [91] 91 [] r i rfl (by decide) (by decide) (by decide) rfl
theorem texts_cb (r : Wd) (i : Nat) : texts (93 :: r) i = (texts r 0).map ([93] :: ·) := mark_of [93] 93 [] r i rfl (by decide) (by decide) (by decide) rfl
theorem texts_oc (r : Wd) (i : Nat) : texts (123 :: r) i = (texts r 0).map ([123] :: ·) := mark_of [123] 123 [] r i rfl (by decide) (by decide) (by decide) rfl
theorem texts_cc (r : Wd) (i : Nat) : texts (125 :: r) i = (texts r 0).map ([125] :: ·) := mark_of [125] 125 [] r i rfl (by decide) (by decide) (by decide) rfl
theorem texts_semi (r : Wd) (i : Nat) : texts (59 :: r) i = (texts r 0).map ([59] :: ·) := mark_of [59] 59 [] r i rfl (by decide) (by decide) (by decide) rfl
theorem texts_eq (r : Wd) (i : Nat) : texts (61 :: 32 :: r) i = (texts r 0).map ([61] :: ·) := by
  have := mark_of [61] 61 [] (32 :: r) i rfl (by decide) (by decide) (by decide) (Lex.mark_again [61] (by decide) 32 r (.inl rfl))
  rw [show (61 :: 32 :: r : Wd) = [61] ++ 32 :: r from rfl, this, texts_blank]
end Tm
end Go.Proofs.YtlpkebngehmimaaGreatDoor
end
section
/- Templates in plain words: what is written is cut into its tokens. -/
namespace Go.Proofs.YtlpkebngehmimaaGreatDoor
set_option linter.unusedVariables false
set_option linter.unusedSimpArgs false
namespace Tm
open Ex
theorem map_cons_map (o : Option (List Wd)) (a b : List Wd) : (o.map (b ++ ·)).map (a ++ ·) = o.map ((a ++ b) ++ ·) := by
  rw [Option.map_map]; congr 1; funext z; simp
theorem map_one (o : Option (List Wd)) (x : Wd) : o.map (x :: ·) = o.map ([x] ++ ·) := rfl
theorem map_app (o : Option (List Wd)) (a b : List Wd) : (o.map (b ++ ·)).map (a ++ ·) = o.map ((a ++ b) ++ ·) := map_cons_map o a b
theorem map_nil (o : Option (List Wd)) : o.map (([] : List Wd) ++ ·) = o := by cases o <;> rfl
theorem sep_nw (c : UInt8) (t : Wd) (h : Lex.word c = false) : SepM (c :: t) := .inr ⟨c, t, rfl, h⟩
theorem kept_ok {w : Wd} (h : w ∈ keptWords) : WordOk w := (kept_words w h).1
/-- a word behind '= ' and a name, and what follows -/
theorem texts_rule1 {w f r : Wd} {i : Nat} (hw : w ∈ keptWords) (hf : NameOk f) (hr : SepM r) : texts ([32, 61, 32] ++ w ++ 32 :: f ++ r) i = (texts r 0).map ([[61], w, f] ++ ·) := by
  have e : [32, 61, 32] ++ w ++ 32 :: f ++ r = 32 :: 61 :: 32 :: (w ++ 32 :: (f ++ r)) := by simp
  rw [e, texts_blank, texts_eq, texts_wd (kept_ok hw) (sep_nw 32 _ (by decide)), texts_blank, texts_wd hf.1 hr, Option.map_map, Option.map_map]
  rfl
theorem texts_tail {h : Hd} (hh : FineH h) (r : Wd) (i : Nat) (hr : ∃ t, r = 59 :: t) : texts (prTail h.cnt h.rule ++ r) i = (texts r 0).map (ptTail h.cnt h.rule ++ ·) := by
  obtain ⟨t, rfl⟩ := hr
  have hs : SepM (59 :: t) := sep_nw 59 t (by decide)
  obtain ⟨at_, k, name, cnt, rule⟩ := h
  obtain ⟨h1, h2, h3, h4, h5⟩ := hh
  simp only [] at *
  cases cnt with
  | some c =>
    have hc := (h3 c rfl).1.1
    show texts (91 :: (prX c ++ [93]) ++ 59 :: t) i = _
    rw [List.cons_append, texts_ob, List.append_assoc, List.singleton_append, texts_prM c hc _ _ (sep_nw 93 _ (by decide)), texts_cb, Option.map_map, Option.map_map]
    congr 1
    funext z
    show _ = ([91] :: (ptX c ++ [[93]])) ++ z
    simp
  | none =>
    cases rule with
    | none => show texts (59 :: t) i = (texts (59 :: t) 0).map (([] : List Wd) ++ ·); rw [map_nil]; exact texts_shift _ _ _
    | size f => exact texts_rule1 (by decide) h4 hs
    | count f => exact texts_rule1 (by decide) h4 hs
    | check f l =>
      unfold prTail ptTail
      simp only []
      by_cases e : l = f
      · rw [if_pos e, if_pos e]; exact texts_rule1 (by decide) h4.1 hs
      · rw [if_neg e, if_neg e]
        have := texts_rule1 (w := wCheck) (f := f) (r := 32 :: (l ++ 59 :: t)) (i := i) (by decide) h4.1 (sep_nw 32 _ (by decide))
        have e2 : [32, 61, 32] ++ wCheck ++ 32 :: (f ++ 32 :: l) ++ 59 :: t = [32, 61, 32] ++ wCheck ++ 32 :: f ++ 32 :: (l ++ 59 :: t) := by simp
        rw [e2, this, texts_blank, texts_wd h4.2.1 hs, Option.map_map]
        rfl
theorem texts_prH {h : Hd} (hh : FineH h) (d : Nat) (r : Wd) (i : Nat) : texts (prH d h ++ r) i = (texts r 0).map (ptH h ++ ·) := by
  have e : prH d h ++ r = List.replicate (2 * d) 32 ++ (kndW h.k ++ 32 :: (h.name ++ (prTail h.cnt h.rule ++ 59 :: 10 :: r))) := by unfold prH pad; simp
  rw [e, texts_pad, texts_wd (kndW_ok hh.1) (sep_nw 32 _ (by decide)), texts_blank, texts_wd hh.2.1.1, texts_tail hh _ _ ⟨_, rfl⟩, texts_semi, texts_nl, Option.map_map, Option.map_map, Option.map_map]
  · congr 1
    funext z
    unfold ptH
    simp
  · obtain ⟨at_, k, name, cnt, rule⟩ := h
    simp only []
    cases cnt with
    | some c => exact sep_nw 91 _ (by decide)
    | none =>
      cases rule with
      | none => exact sep_nw 59 _ (by decide)
      | size f => exact sep_nw 32 _ (by decide)
      | count f => exact sep_nw 32 _ (by decide)
      | check f l =>
        unfold prTail
        simp only []
        split <;> exact sep_nw 32 _ (by decide)
theorem texts_prI : ∀ (l : Its), FineI l → ∀ (d : Nat) (r : Wd) (i : Nat), texts (prI d l ++ r) i = (texts r 0).map (ptI l ++ ·)
  | .nil, h, d, r, i => by
    show texts r i = (texts r 0).map (([] : List Wd) ++ ·)
    rw [map_nil]; exact texts_shift _ _ _
  | .cons h l, hf, d, r, i => by
    show texts (prH d h ++ prI d l ++ r) i = _
    rw [List.append_assoc, texts_prH hf.1, texts_prI l hf.2, map_app]
    rfl
  | .when a c b l, hf, d, r, i => by
    have e : prI d (.when a c b l) ++ r = List.replicate (2 * d) 32 ++ (wWhen ++ 32 :: (prX c ++ 32 :: 123 :: 10 :: (prI (d + 1) b ++ (List.replicate (2 * d) 32 ++ 125 :: 10 :: (prI d l ++ r))))) := by
      rw [prI]; unfold pad; simp
    rw [e, texts_pad, texts_wd (kept_ok (by decide)) (sep_nw 32 _ (by decide)), texts_blank, texts_prM c hf.1.1 _ _ (sep_nw 32 _ (by decide)), texts_blank, texts_oc, texts_nl, texts_prI b hf.2.1, texts_pad, texts_cc, texts_nl, texts_prI l hf.2.2]
    simp only [Option.map_map]
    congr 1
    funext z
    rw [show ptI (.when a c b l) = wWhen :: (ptX c ++ [123] :: (ptI b ++ [125] :: ptI l)) from rfl]
    simp
theorem texts_prT {t : Ty} (ht : FineT t) (r : Wd) (i : Nat) : texts (prT t ++ r) i = (texts r 0).map (ptT t ++ ·) := by
  have e : prT t ++ r = wStruct ++ 32 :: (t.name ++ 32 :: 123 :: 10 :: (prI 1 t.items ++ 125 :: 10 :: r)) := by unfold prT; simp
  rw [e, texts_wd (kept_ok (by decide)) (sep_nw 32 _ (by decide)), texts_blank, texts_wd ht.1.1 (sep_nw 32 _ (by decide)), texts_blank, texts_oc, texts_nl, texts_prI t.items ht.2, texts_cc, texts_nl]
  simp only [Option.map_map]
  congr 1
  funext z
  unfold ptT
  simp
theorem texts_prTs : ∀ (l : List Ty), (∀ t ∈ l, FineT t) → texts (prTs l) 0 = some (ptTs l)
  | [], h => rfl
  | t :: l, h => by
    show texts (prT t ++ prTs l) 0 = _
    rw [texts_prT (h t (by simp)), texts_prTs l fun u hu => h u (by simp [hu])]
    rfl
/-! ## the same again -/
theorem Same.refl : ∀ x : X, Same x x
  | .num a n => .num a a n
  | .name a s => .name a a s
  | .bin a op l r => .bin a a op (Same.refl l) (Same.refl r)
theorem same_prX {x y : X} (h : Same x y) : prX x = prX y ∧ ptX x = ptX y := by
  refine ⟨h.pr.2, ?_⟩
  induction h with
  | num => rfl
  | name => rfl
  | bin a b op h1 h2 ih1 ih2 =>
    unfold ptX at *
    unfold pt
    rw [ih1, ih2, (h1.pr (dec := Num.dec)).1, (h2.pr (dec := Num.dec)).1]
theorem same_tail {c c' : Option X} (h : SameO c c') (r : Rl) : prTail c r = prTail c' r := by
  cases c with
  | none => cases c' with
    | none => rfl
    | some b => exact h.elim
  | some a => cases c' with
    | none => exact h.elim
    | some b => unfold prTail; simp only []; rw [(same_prX h).1]
theorem same_prH {h h' : Hd} (hs : SameH h h') (d : Nat) : prH d h = prH d h' := by
  unfold prH
  rw [hs.1, hs.2.1, same_tail hs.2.2.1, hs.2.2.2]
theorem same_prI {l l' : Its} (h : SameI l l') : ∀ d, prI d l = prI d l' := by
  induction h with
  | nil => intro d; rfl
  | cons hh _ ih => intro d; show prH d _ ++ _ = prH d _ ++ _; rw [same_prH hh, ih]
  | when hc _ _ ih1 ih2 => intro d; rw [prI, prI, (same_prX hc).1, ih1, ih2]
theorem same_prTs {l l' : List Ty} (h : SameTs l l') : prTs l = prTs l' := by
  induction h with
  | nil => rfl
  | cons ht _ ih =>
    show prT _ ++ prTs _ = prT _ ++ prTs _
    rw [ih]
    unfold prT
    rw [ht.1, same_prI ht.2]
end Tm
end Go.Proofs.YtlpkebngehmimaaGreatDoor
end
