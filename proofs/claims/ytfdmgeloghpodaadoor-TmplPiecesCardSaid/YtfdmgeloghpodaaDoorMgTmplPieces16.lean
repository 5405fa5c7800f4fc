/- Contract of expr.Text. -/
import Derived.WalkKit
import Derived.Test.YtfdmgeloghpodaaDoorMgTmplPieces15
import Derived.Test.YtfdmgeloghpodaaDoorMgTmplPieces7
import Derived.Test.YtfdmgeloghpodaaDoorMgTmplPieces14
section
/- What an expression comes to; the law ExprAgain in plain words. -/
namespace Go.Proofs.YtfdmgeloghpodaaDoor
set_option linter.unusedVariables false
set_option linter.unusedSimpArgs false
namespace Ex
theorem num_ok : ∀ l n, Num.numOf l = .inl n → Num.dec n ≠ [] ∧ (∀ c ∈ Num.dec n, Lex.digit c.toNat = true) ∧ Num.numOf (Num.dec n) = .inl n := by
  intro l n h
  have hn := Num.numOf_lt h
  refine ⟨Num.dec_ne n (by omega), fun c hc => ?_, Num.numOf_dec n hn⟩
  have := (Num.dec_digits n c hc).2
  unfold Lex.digit
  exact decide_eq_true this
/-- what follows a token's first byte, if that is a letter or a digit -/
theorem words : ∀ (n : Nat) (l : List UInt8) (i : Nat) (T : List Tok), l.length ≤ n → Lex.lexA l i = some T → ∀ t ∈ T, t.1 ≠ [] ∧ ∀ c r, t.1 = c :: r → Lex.word c = true → ∀ b ∈ t.1, Lex.word b = true := by
  intro n
  induction n with
  | zero =>
    intro l i T h hT
    obtain rfl := List.eq_nil_of_length_eq_zero (Nat.le_zero.1 h)
    rw [Lex.lexA_nil] at hT
    cases hT
    intro t ht; cases ht
  | succ n ih =>
    intro l i T h hT
    cases l with
    | nil => rw [Lex.lexA_nil] at hT; cases hT; intro t ht; cases ht
    | cons c l =>
      rw [List.length_cons] at h
      by_cases h1 : c = 32 ∨ c = 10 ∨ c = 9
      · rw [Lex.lexA_blank c l i h1] at hT
        exact ih l _ T (by omega) hT
      · by_cases h2 : c = 35
        · subst h2
          rw [Lex.lexA_note] at hT
          exact ih _ _ T (by rw [List.length_drop, List.length_cons]; have := Lex.note_pos l; omega) hT
        · by_cases h3 : Lex.next (c :: l) = 0
          · rw [Lex.lexA_bad c l i h1 h2 h3] at hT; cases hT
          · rw [Lex.lexA_tok c l i h1 h2 h3, Option.map_eq_some_iff] at hT
            obtain ⟨T', hT', rfl⟩ := hT
            intro t ht
            rcases List.mem_cons.1 ht with rfl | ht
            · constructor
              · intro e
                have := congrArg List.length e
                rw [List.length_take, List.length_cons, List.length_nil] at this
                omega
              · intro d r hd hw b hb
                have hdc : d = c := by
                  obtain ⟨k, hk⟩ : ∃ k, Lex.next (c :: l) = k + 1 := ⟨Lex.next (c :: l) - 1, by omega⟩
                  simp only [hk, List.take_succ_cons] at hd
                  cases hd; rfl
                subst hdc
                simp only at hb
                rw [Lex.next_cons, if_pos hw] at hb
                have hp := List.takeWhile_prefix Lex.word (l := d :: l)
                rw [← List.prefix_iff_eq_take.1 hp] at hb
                exact Lex.takeWhile_all Lex.word _ b hb
            · exact ih _ _ T' (by rw [List.length_drop, List.length_cons]; omega) hT' t ht
def wrapI (z : Int) : Int := IntKind.i64.wrap z
def truth (b : Bool) : Int := if b then 1 else 0
/-- what an op makes of two numbers -/
def opv (op : List UInt8) (a b : Int) : Int :=
  if op = [43] then wrapI (a + b) else if op = [45] then wrapI (a - b) else if op = [42] then wrapI (a * b) else if op = [38] then bits .and .i64 a b else if op = [124] then bits .or .i64 a b else
  if op = [61, 61] then truth (decide (a = b)) else if op = [33, 61] then truth (!decide (a = b)) else if op = [60] then truth (decide (a < b)) else truth (decide (b < a))
abbrev Names := List UInt8 → Option Int
def ev (N : Names) : X → Option Int
  | .num _ n => some n
  | .name _ s => N s
  | .bin _ op l r => (ev N l).bind fun a => (ev N r).map fun b => opv op a b
theorem Same.ev {N : Names} {x y : X} (h : Same x y) : Ex.ev N x = Ex.ev N y := by
  induction h with
  | num => rfl
  | name => rfl
  | bin a b op _ _ ih1 ih2 => unfold Ex.ev; rw [ih1, ih2]
def InR (v : Int) : Prop := -9223372036854775808 ≤ v ∧ v ≤ 9223372036854775807
theorem wrapI_range (z : Int) : InR (wrapI z) := by
  unfold InR wrapI
  rw [IntKind.wrap_i64]
  omega
theorem truth_range (b : Bool) : InR (truth b) := by cases b <;> (unfold InR truth; simp)
theorem opv_range (op : List UInt8) (a b : Int) : InR (opv op a b) := by
  unfold opv
  have hb : ∀ o x y, InR (bits o .i64 x y) := fun o x y => wrapI_range _
  repeat' split
  all_goals first | exact wrapI_range _ | exact hb _ _ _ | exact truth_range _
theorem ev_range {N : Names} (hN : ∀ s v, N s = some v → InR v) : ∀ x : X, Fine Num.numOf Num.dec x → ∀ v, ev N x = some v → InR v
  | .num _ n, h, v, e => by
    have := Num.numOf_lt h.2.2
    unfold ev at e
    cases e
    unfold InR; omega
  | .name _ s, h, v, e => hN s v e
  | .bin _ op l r, h, v, e => by
    unfold ev at e
    rw [Option.bind_eq_some_iff] at e
    obtain ⟨a, _, e⟩ := e
    rw [Option.map_eq_some_iff] at e
    obtain ⟨b, _, rfl⟩ := e
    exact opv_range op a b
theorem ev_once {N : Names} (hN : ∀ s v, N s = some v → InR v) (x : X) (h : Fine Num.numOf Num.dec x) (a b : Nat) : ev N (.bin a [42] x (.num b 1)) = ev N x := by
  have e0 : ev N (.bin a [42] x (.num b 1)) = (ev N x).bind fun u => (ev N (.num b 1)).map fun v => opv [42] u v := rfl
  rw [e0]
  cases e : ev N x with
  | none => rfl
  | some v =>
    have := ev_range hN x h v e
    have e2 : ev N (.num b 1) = some 1 := rfl
    rw [e2]
    show some (opv [42] v 1) = some v
    have e3 : opv [42] v 1 = wrapI (v * 1) := rfl
    rw [e3]
    unfold wrapI InR at *
    rw [IntKind.wrap_i64]
    congr 1
    omega
/-- with brackets about it, and once -/
theorem bracket {num : NumOf} {dec : Dec} {E : Nat} (h1 : num [49] = .inl 1) (x : X) (hx : Fine num dec x) (T : List Tok) (hT : T.map Prod.fst = [40] :: (pt dec x ++ [[41], [42], [49]])) :
    (deepAt dec x + 1 ≤ 8 → ∃ y a b, Same x y ∧ Par num E (.lev 0) 0 T (.ok (.bin a [42] y (.num b 1)) [])) ∧ (8 < deepAt dec x + 1 → ∃ p, Par num E (.lev 0) 0 T (.bad 4 p)) := by
  have hT2 : T.map Prod.fst = ([40] :: (pt dec x ++ [[41]])) ++ [[42], [49]] := by rw [hT]; simp
  obtain ⟨S, R, rfl, hS, hR⟩ := List.map_eq_append_iff.1 hT2
  obtain ⟨m, R1, rfl, hm, hR1⟩ := List.map_eq_cons_iff.1 hR
  obtain ⟨u, R2, rfl, hu, hR2⟩ := List.map_eq_cons_iff.1 hR1
  obtain rfl := List.map_eq_nil_iff.1 hR2
  obtain ⟨bk, bk3⟩ := back (num := num) (E := E) x hx
  constructor
  · intro hd
    obtain ⟨y, hy, ho⟩ := paren_back bk (d := 0) (R := [m, u]) (by omega) hS
    refine ⟨y, m.2, u.2, hy, ?_⟩
    have hmm : m.1 ∈ levels 2 := by rw [hm]; decide
    have hone : Par num E (.lev 3) 0 [u] (.ok (.num u.2 1) []) := .top (.num (c := 49) (r := []) hu (by decide) (by rw [hu]; exact h1))
    have l2 : Par num E (.lev 2) 0 (S ++ [m, u]) (.ok (.bin m.2 m.1 y (.num u.2 1)) []) := .lev (by omega) (.top ho) (.more hmm hone ((stop_nil 2).done _ 0))
    rw [hm] at l2
    exact .lev (by omega) (.lev (by omega) l2 ((stop_nil 1).done _ 0)) ((stop_nil 0).done _ 0)
  · intro hd
    obtain ⟨a, S1, rfl, ha, h2⟩ := List.map_eq_cons_iff.1 hS
    obtain ⟨S2, S3, rfl, h3, h4⟩ := List.map_eq_append_iff.1 h2
    obtain ⟨p, hp⟩ := back_bad (num := num) (E := E) x hx 1 S2 (S3 ++ [m, u]) 0 (by omega) (by omega) h3 (by omega) (by omega)
    refine ⟨p, liftBad 3 0 3 rfl (by omega) (.top ?_)⟩
    have e : (a :: (S2 ++ S3)) ++ [m, u] = a :: (S2 ++ (S3 ++ [m, u])) := by simp
    rw [e]
    exact .parenBad ha (by omega) hp
theorem texts_bracket {num : NumOf} {dec : Dec} (x : X) (hx : Fine num dec x) : texts (40 :: (pr dec x ++ [41, 42, 49])) 0 = some ([40] :: (pt dec x ++ [[41], [42], [49]])) := by
  have h1 : texts [49] 0 = some [[49]] := by
    have := texts_word [49] [] 0 (by decide) (by decide) (.inl (.inl rfl))
    rw [List.append_nil] at this
    rw [this]; rfl
  rw [texts_open, texts_pr x hx _ _ (.inr ⟨41, _, rfl, .inr rfl⟩), texts_shut, texts_star, h1]
  rfl
theorem texts_again {num : NumOf} {dec : Dec} (x : X) (hx : Fine num dec x) : texts (pr dec x) 0 = some (pt dec x) := by
  have := texts_pr x hx [] 0 (.inl rfl)
  rw [List.append_nil] at this
  rw [this]
  show some (pt dec x ++ []) = _
  rw [List.append_nil]
/-- WHAT IS WRITTEN IS READ -/
theorem again_read {num : NumOf} {dec : Dec} {E : Nat} (x : X) (hx : Fine num dec x) (hd : deepAt dec x ≤ 8) (T : List Tok) (hT : T.map Prod.fst = pt dec x) : ∃ y, Same x y ∧ Par num E (.lev 0) 0 T (.ok y []) := by
  obtain ⟨y, hy, ho⟩ := (back (num := num) (E := E) x hx).1 0 T [] 0 (by omega) hT (by omega) (by omega) (stop_nil 1)
  have := ho _ ((stop_nil 0).done y 0)
  rw [List.append_nil] at this
  exact ⟨y, hy, this⟩
end Ex
end Go.Proofs.YtfdmgeloghpodaaDoor
end
section
/- Contract of expr.Text. -/
namespace Go.Proofs.YtfdmgeloghpodaaDoor
open Go.RowKit
set_option linter.unusedVariables false
set_option linter.unusedSimpArgs false
open Rd
open Ex (X levels)
theorem Print_dec (n : Nat) (w : World) (hn : n < 18446744073709551616) : Calls Tryd.prog 56 #[.int .u64 (n : Nat), .int .i64 10, .int .i64 0] w fun e w' => e = .returned (.tuple #[.string (bstr (Num.dec n)), .nilIface]) ∧ Below w.heap.size w w' := by
  refine (Print_any n 10 0 w hn (by decide) (by decide) (by decide)).mono ?_
  rintro e w' ⟨⟨J, hJ, rfl⟩, hb⟩
  have : J = Num.wdt n := Digits.Wide.unique hJ (Num.wdt_wide n hn)
  subst this
  exact ⟨rfl, hb⟩
set_option maxRecDepth 100000 in
theorem Text_num (a n : Nat) (hn : n < 9223372036854775808) : TextC (.num a n) := by
  intro w rb b hl hrb hx hp
  have c0 := hx.2.cell0 0 (by simp)
  have c2 := hx.2.cell0 2 (by simp)
  simp only [List.getElem_cons_zero, List.getElem_cons_succ] at c0 c2
  have HP := Lib.hid (Print_dec n w (by omega))
  have hw : IntKind.u64.wrap (n : Int) = (n : Int) := by rw [IntKind.wrap_u64]; omega
  clear hx hl hp
  show Calls _ _ _ _ fun e w' => e = .returned (.string (bstr (Num.dec n))) ∧ Below w.heap.size w w'
  go_enter Tryd.func39, Tryd.ntmps39
  go_wp2_with fail
  refine HP.out.mono ?_
  rintro e w1 ⟨rfl, hb⟩
  go_wp2_with fail
  go_ret
  exact ⟨rfl, hb⟩
set_option maxRecDepth 100000 in
theorem Text_name (a : Nat) (s : List UInt8) : TextC (.name a s) := by
  intro w rb b hl hrb hx hp
  have c0 := hx.2.cell0 0 (by simp)
  have c3 := hx.2.cell0 3 (by simp)
  simp only [List.getElem_cons_zero, List.getElem_cons_succ] at c0 c3
  clear hx hl hp
  show Calls _ _ _ _ fun e w' => e = .returned (.string (bstr s)) ∧ Below w.heap.size w w'
  go_enter Tryd.func39, Tryd.ntmps39
  go_wp2_with fail
  go_ret
  exact ⟨rfl, Below.refl _ _⟩
theorem pr_bin (a : Nat) (op : List UInt8) (l r : X) : Ex.pr Num.dec (.bin a op l r) = partOf l (Ex.opLevel op) ++ 32 :: (op ++ 32 :: partOf r (Ex.opLevel op + 1)) := rfl
theorem part_ge (x : X) (k : Nat) : (Ex.pr Num.dec x).length ≤ (partOf x k).length := by
  unfold partOf
  split
  · simp only [List.length_cons, List.length_append]; omega
  · exact Nat.le_refl _
/-- what the region keeps: the node's cells -/
abbrev TS (w : World) (b bl br : Nat) (op : List UInt8) (w1 : World) : Prop := w1.cell? ⟨b, 5, none⟩ = some (.pointer (some ⟨bl, 0, none⟩)) ∧ w1.cell? ⟨b, 4, none⟩ = some (.string (bstr op)) ∧ w1.cell? ⟨b, 6, none⟩ = some (.pointer (some ⟨br, 0, none⟩)) ∧ Below w.heap.size w w1
theorem TS.keep {w w1 w2 : World} {b bl br : Nat} {op : List UInt8} (h : TS w b bl br op w1) (hb : b < w.heap.size) (h2 : Below w1.heap.size w1 w2) : TS w b bl br op w2 := by
  have hlt : b < w1.heap.size := Nat.lt_of_lt_of_le hb h.2.2.2.size
  exact ⟨(h2.cell (p := ⟨b, 5, none⟩) hlt).trans h.1, (h2.cell (p := ⟨b, 4, none⟩) hlt).trans h.2.1, (h2.cell (p := ⟨b, 6, none⟩) hlt).trans h.2.2.1, h.2.2.2.trans (h2.mono h.2.2.2.size)⟩
theorem TS.drew {w w1 : World} {b bl br : Nat} {op : List UInt8} (h : TS w b bl br op w1) : TS w b bl br op w1.drew := ⟨h.1, h.2.1, h.2.2.1, h.2.2.2.drew⟩
set_option maxRecDepth 100000 in
set_option maxHeartbeats 4000000 in
theorem Text_bin (a : Nat) (op : List UInt8) (l r : X) (hop : Ex.opLevel op < 3) (hL : TextC l) (hR : TextC r) : TextC (.bin a op l r) := by
  intro w rb b hl hrb hx hp
  have HH := Lib.hid (hold_x hl hx)
  have hh : Ex.hold (.bin a op l r) = Ex.opLevel op := rfl
  rw [hh] at HH
  obtain ⟨bl, br, h1, h2, h3, h4⟩ := hx
  have c0 := h2.cell0 0 (by simp)
  have c4 := h2.cell0 4 (by simp)
  have c5 := h2.cell0 5 (by simp)
  have c6 := h2.cell0 6 (by simp)
  simp only [List.getElem_cons_zero, List.getElem_cons_succ] at c0 c4 c5 c6
  rw [pr_bin] at hp ⊢
  have hpl := part_ge l (Ex.opLevel op)
  have hpr := part_ge r (Ex.opLevel op + 1)
  simp only [List.length_append, List.length_cons] at hp
  obtain ⟨k, hk⟩ : ∃ k, k = Ex.opLevel op := ⟨_, rfl⟩
  rw [← hk] at hpl hpr hp HH hop ⊢
  have hblt := h2.lt
  have hlv : ∀ W, Below w.heap.size w W → LevelsAt W rb := fun W hB => by
    refine ⟨hl.1, fun i hi => ?_⟩
    obtain ⟨gk, ck, e1, e2, e3⟩ := hl.2 i hi
    exact ⟨gk, ck, (hB.cell (p := ⟨_, i, none⟩) (Nat.lt_of_lt_of_le hl.1 hrb)).trans e1, e2, fun j hj => (hB.cell (p := gk.add j) (by rw [Addr.add_block]; exact Nat.lt_of_lt_of_le e2 hrb)).trans (e3 j hj)⟩
  have HPL : Hid (∀ W, TS w b bl br op W → Calls Tryd.prog 58 #[.pointer (some ⟨bl, 0, none⟩), .int .i64 (k : Nat)] W fun e w' => e = .returned (.string (bstr (partOf l k))) ∧ TS w b bl br op w') := Lib.hid fun W hW =>
    (part_any l k W rb bl hL (hlv W hW.2.2.2) (Nat.le_trans hrb hW.2.2.2.size) (IsX.grown (below_grown hW.2.2.2 _) l bl h3) (by omega) (by omega)).mono fun e w' ⟨h, hb⟩ => ⟨h, hW.keep hblt hb⟩
  have HPR : Hid (∀ W, TS w b bl br op W → Calls Tryd.prog 58 #[.pointer (some ⟨br, 0, none⟩), .int .i64 ((k : Int) + 1)] W fun e w' => e = .returned (.string (bstr (partOf r (k + 1)))) ∧ TS w b bl br op w') := Lib.hid fun W hW =>
    (part_any r (k + 1) W rb br hR (hlv W hW.2.2.2) (Nat.le_trans hrb hW.2.2.2.size) (IsX.grown (below_grown hW.2.2.2 _) r br h4) (by omega) (by omega)).mono fun e w' ⟨h, hb⟩ => ⟨h, hW.keep hblt hb⟩
  have hS0 : TS w b bl br op w := ⟨c5, c4, c6, Below.refl _ _⟩
  generalize partOf l k = p at *
  generalize partOf r (k + 1) = q at *
  have z1 : ¬ 9223372036854775807 < p.length + 1 := by omega
  have z2 : ¬ 9223372036854775807 < p.length + 1 + op.length := by omega
  have z3 : ¬ 9223372036854775807 < p.length + 1 + op.length + 1 := by omega
  have z4 : ¬ 9223372036854775807 < p.length + 1 + op.length + 1 + q.length := by omega
  have z5 : ¬ 9223372036854775807 < p.length + (op.length + 1) := by omega
  have hkw : IntKind.i64.wrap ((k : Int) + 1) = (k : Int) + 1 := by rw [IntKind.wrap_i64]; omega
  clear hlv hL hR hl h2 h3 h4 hpl hpr hh hk hp
  go_enter Tryd.func39, Tryd.ntmps39
  go_wp2_with fail
  refine HH.out.mono ?_
  rintro e w ⟨rfl, rfl⟩
  go_wp2_with fail
  go_region_held3 (fun w1 => w1.cell? ⟨b, 5, none⟩ = some (.pointer (some ⟨bl, 0, none⟩)) ∧ w1.cell? ⟨b, 4, none⟩ = some (.string (bstr op)) ∧ w1.cell? ⟨b, 6, none⟩ = some (.pointer (some ⟨br, 0, none⟩)) ∧ Below w.heap.size w w1)
    (first
      | exact hS0
      | exact TS.drew (by assumption)
      | assumption)
    (first
      | (go_at_call 58; (with_reducible refine (HPL.out _ ?_).mono ?_); (next => (first | assumption | exact hS0)); (rintro e w9 ⟨rfl, hS9⟩))
      | ((try rw [hkw]); go_at_call 58; (with_reducible refine (HPR.out _ ?_).mono ?_); (next => (first | assumption | exact hS0)); (rintro e w9 ⟨rfl, hS9⟩)))
  all_goals
    go_wp2_with fail
    go_ret
    have hst : bstr p ++ { data := #[32] } ++ bstr op ++ { data := #[32] } ++ bstr q = bstr (p ++ 32 :: (op ++ 32 :: q)) := by
      rw [show ({ data := #[32] } : ByteArray) = bstr [32] from rfl]
      simp only [bstr_append, List.append_assoc]
      rfl
    exact ⟨by rw [← hst]; rfl, hS9.2.2.2⟩
theorem Text_x : ∀ x : X, Ex.Fine Num.numOf Num.dec x → TextC x
  | .num a n, h => Text_num a n (Num.numOf_lt h.2.2)
  | .name a s, _ => Text_name a s
  | .bin a op l r, h => Text_bin a op l r h.1 (Text_x l h.2.1) (Text_x r h.2.2)
end Go.Proofs.YtfdmgeloghpodaaDoor
end
