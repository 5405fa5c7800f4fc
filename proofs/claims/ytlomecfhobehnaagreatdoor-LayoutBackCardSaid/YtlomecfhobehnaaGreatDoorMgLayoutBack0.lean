/- Memory: a row of cells in a block, known from a place on; laws for make, bytes of a string, and back. No program in sight. -/
import Derived.WalkKit
import Derived.WalkLawsBesides
import Derived.WalkSpells
import Derived.Deep.QuietTactic
import Derived.BigQuiet
import Derived.StillTailTactics
import Derived.Lib.Hide
import Derived.Laws.IdiomStrings
section
/- Small lemmas that all texts of this seat use: strings as lists of bytes, endings, worlds. No program in sight. -/
namespace Go.Proofs.YtlomecfhobehnaaGreatDoor
open Go.RowKit
set_option linter.unusedVariables false
set_option linter.unusedSimpArgs false

/-- a string of these bytes -/
def bstr (l : List UInt8) : ByteArray := ⟨l.toArray⟩
theorem bstr_data (l : List UInt8) : (bstr l).data.toList = l := rfl
@[go_sem] theorem bstr_toList (l : List UInt8) : (bstr l).toList = l := by
  rw [ByteArray.toList_eq]; rfl
@[go_sem] theorem bstr_size (l : List UInt8) : (bstr l).size = l.length := by simp [bstr, ByteArray.size]
theorem eq_bstr (s : ByteArray) : s = bstr s.data.toList := by cases s; rfl
theorem strOfNums_eq (xs : List Int) : strOfNums xs = bstr (xs.map fun n => UInt8.ofNat n.toNat) := rfl

theorem ret_int {k : IntKind} {a b : Int} (h : a = b) : Ending.returned (.int k a) = .returned (.int k b) := by rw [h]
theorem ret_bool {a b : Bool} (h : a = b) : Ending.returned (.bool a) = .returned (.bool b) := by rw [h]
theorem ret_str {a b : ByteArray} (h : a = b) : Ending.returned (.string a) = .returned (.string b) := by rw [h]
theorem ret_tup1 {a b x : Value} (h : a = b) : Ending.returned (.tuple #[a, x]) = .returned (.tuple #[b, x]) := by rw [h]
theorem ret_tup {a b x y : Value} (h : a = b) (h' : x = y) : Ending.returned (.tuple #[a, x]) = .returned (.tuple #[b, y]) := by rw [h, h']
theorem val_int {k : IntKind} {a b : Int} (h : a = b) : Value.int k a = .int k b := by rw [h]
theorem val_str {a b : ByteArray} (h : a = b) : Value.string a = .string b := by rw [h]

theorem bdrewN {B : Nat} {a w : World} (h : Below B a w) (n : Nat) : Below B a (w.drewN n) := ⟨h.os, h.tape, h.output, h.size, h.block⟩
@[go_sem] theorem bstr_append (a b : List UInt8) : bstr a ++ bstr b = bstr (a ++ b) := by
  rw [eq_bstr (bstr a ++ bstr b)]
  congr 1
theorem append_data (a b : ByteArray) : (a ++ b).data.toList = a.data.toList ++ b.data.toList := by
  simp [ByteArray.data_append]
theorem data_length (s : ByteArray) : s.data.toList.length = s.size := by rw [Array.length_toList]; rfl

/-- one of n that a number stands for -/
def pickI (a n : Int) : Int := a % 18446744073709551616 % n
def pickN (a : Int) (n : Nat) : Nat := (pickI a n).toNat
theorem pickI_nn (a n : Int) (h : 1 ≤ n) : 0 ≤ pickI a n := by unfold pickI; exact Int.emod_nonneg _ (by omega)
theorem pickI_lt (a n : Int) (h : 1 ≤ n) : pickI a n < n := by unfold pickI; exact Int.emod_lt_of_pos _ (by omega)
theorem pickN_cast (a : Int) (n : Nat) (h : 1 ≤ n) : ((pickN a n : Nat) : Int) = pickI a n := by
  unfold pickN; have := pickI_nn a n (by omega); omega
theorem pickN_lt (a : Int) (n : Nat) (h : 1 ≤ n) : pickN a n < n := by
  have := pickI_lt a n (by omega); have := pickN_cast a n h; omega
/-- a contract that leaves the world alone, in the form that regions ask -/
theorem turn {P : Program} {f : FuncId} {args : Array Value} {w : World} {v : Value} (h : Calls P f args w fun e w' => e = .returned v ∧ w = w') :
    Calls P f args w fun e w' => e = .returned v ∧ w' = w := h.mono fun _ _ h => ⟨h.1, h.2.symm⟩
/-- a slice of integers that came in: nil, or a row of cells -/
def IsInts (k : IntKind) (w : World) (a : Option Addr) (len cap : Nat) (zs : List Int) : Prop :=
  (a = none ∧ len = 0 ∧ cap = 0 ∧ zs = []) ∨
  ∃ x, a = some x ∧ len ≤ cap ∧ cap ≤ maxLen ∧ zs.length = cap ∧ (∀ i, i < zs.length → w.cell? (x.add i) = some (.int k (zs.getD i 0))) ∧ (∀ n ∈ zs, (Lit.int k n).wf = true) ∧ cap ≤ 140737488351232
/-- a slice of strings that came in -/
def IsStrs (w : World) (a : Option Addr) (len cap : Nat) (ss : List ByteArray) : Prop :=
  (a = none ∧ len = 0 ∧ cap = 0 ∧ ss = []) ∨
  ∃ x, a = some x ∧ len ≤ cap ∧ cap ≤ maxLen ∧ ss.length = cap ∧ (∀ i, i < ss.length → w.cell? (x.add i) = some (.string (ss.getD i ByteArray.empty))) ∧ (∀ s ∈ ss, s.size ≤ maxLen) ∧ cap ≤ 140737488351232
theorem Addr.add_block (x : Addr) (i : Nat) : (x.add i).block = x.block := by unfold Addr.add; split <;> rfl
theorem IsInts.cell {k : IntKind} {w : World} {a : Option Addr} {len cap : Nat} {zs : List Int} (h : IsInts k w a len cap zs) (i : Nat) (hi : i < len) : ∃ x : Addr, a = some x ∧ x.block < w.heap.size ∧ w.cell? (x.add i) = some (.int k (zs.getD i 0)) := by
  rcases h with ⟨_, h, _⟩ | ⟨x, h1, h2, h3, h4, h5, h6, h7⟩
  · omega
  · have hc := h5 i (by omega)
    have := World.block_lt_of_cell? w _ hc
    rw [Addr.add_block] at this
    exact ⟨x, h1, this, hc⟩
theorem IsStrs.cell {w : World} {a : Option Addr} {len cap : Nat} {ss : List ByteArray} (h : IsStrs w a len cap ss) (i : Nat) (hi : i < len) : ∃ x : Addr, a = some x ∧ x.block < w.heap.size ∧ w.cell? (x.add i) = some (.string (ss.getD i ByteArray.empty)) ∧ (ss.getD i ByteArray.empty).size ≤ maxLen := by
  rcases h with ⟨_, h, _⟩ | ⟨x, h1, h2, h3, h4, h5, h6, h7⟩
  · omega
  · have hc := h5 i (by omega)
    have := World.block_lt_of_cell? w _ hc
    rw [Addr.add_block] at this
    refine ⟨x, h1, this, hc, h6 _ ?_⟩
    rw [List.getD_eq_getElem?_getD, List.getElem?_eq_getElem (by omega)]
    exact List.getElem_mem _
theorem IsInts.below {k : IntKind} {w w' : World} {a : Option Addr} {len cap : Nat} {zs : List Int} (h : IsInts k w a len cap zs) {B : Nat} (hb : Below B w w') (hB : w.heap.size ≤ B) : IsInts k w' a len cap zs := by
  rcases h with h | ⟨x, h1, h2, h3, h4, h5, h6, h7⟩
  · exact .inl h
  · refine .inr ⟨x, h1, h2, h3, h4, fun i hi => ?_, h6, h7⟩
    have hlt := World.block_lt_of_cell? w _ (h5 i hi)
    rw [World.cell?_of_block (w := w) (w' := w') (a := x.add i)]
    · exact h5 i hi
    · exact hb.block _ (Nat.lt_of_lt_of_le hlt hB)
theorem IsStrs.below {w w' : World} {a : Option Addr} {len cap : Nat} {ss : List ByteArray} (h : IsStrs w a len cap ss) {B : Nat} (hb : Below B w w') (hB : w.heap.size ≤ B) : IsStrs w' a len cap ss := by
  rcases h with h | ⟨x, h1, h2, h3, h4, h5, h6, h7⟩
  · exact .inl h
  · refine .inr ⟨x, h1, h2, h3, h4, fun i hi => ?_, h6, h7⟩
    have hlt := World.block_lt_of_cell? w _ (h5 i hi)
    rw [World.cell?_of_block (w := w) (w' := w') (a := x.add i)]
    · exact h5 i hi
    · exact hb.block _ (Nat.lt_of_lt_of_le hlt hB)
theorem IsInts.len {k : IntKind} {w : World} {a : Option Addr} {len cap : Nat} {zs : List Int} (h : IsInts k w a len cap zs) : len ≤ cap ∧ zs.length = cap ∧ cap ≤ 140737488351232 := by
  rcases h with ⟨_, h, h2, h3⟩ | ⟨x, h1, h2, h3, h4, h5, h6, h7⟩
  · subst h h2 h3; exact ⟨Nat.le_refl _, rfl, by decide⟩
  · exact ⟨h2, h4, h7⟩
theorem IsStrs.len {w : World} {a : Option Addr} {len cap : Nat} {ss : List ByteArray} (h : IsStrs w a len cap ss) : len ≤ cap ∧ ss.length = cap ∧ cap ≤ 140737488351232 := by
  rcases h with ⟨_, h, h2, h3⟩ | ⟨x, h1, h2, h3, h4, h5, h6, h7⟩
  · subst h h2 h3; exact ⟨Nat.le_refl _, rfl, by decide⟩
  · exact ⟨h2, h4, h7⟩
end Go.Proofs.YtlomecfhobehnaaGreatDoor
end
section
/- Tokens: the plain function of lex.Lex, and that written with something between they are the same. No program in sight. -/
namespace Go.Proofs.YtlomecfhobehnaaGreatDoor
set_option linter.unusedVariables false
set_option linter.unusedSimpArgs false
namespace Lex
def letter (n : Nat) : Bool := decide (97 ≤ n ∧ n ≤ 122) || decide (65 ≤ n ∧ n ≤ 90) || decide (n = 95)
def digit (n : Nat) : Bool := decide (48 ≤ n ∧ n ≤ 57)
def word (c : UInt8) : Bool := letter c.toNat || digit c.toNat
def marks : List (List UInt8) := [[61, 61], [33, 61], [123], [125], [91], [93], [40], [41], [59], [44], [61], [43], [45], [42], [38], [124], [60], [62]]
def markLen (l : List UInt8) : Nat := match marks.find? fun m => m.isPrefixOf l with
  | some m => m.length
  | none => 0
/-- how many bytes the token at a text's beginning has -/
def next (l : List UInt8) : Nat := match l with
  | [] => 0
  | c :: _ => if word c then (l.takeWhile word).length else markLen l
theorem next_cons (c : UInt8) (l : List UInt8) : next (c :: l) = if word c then ((c :: l).takeWhile word).length else markLen (c :: l) := rfl
def note (l : List UInt8) : Nat := (l.takeWhile fun c => c != 10).length
def lexF : Nat → List UInt8 → Nat → Option (List (List UInt8 × Nat))
  | 0, _, _ => some []
  | _ + 1, [], _ => some []
  | f + 1, c :: l, i =>
    if c = 32 ∨ c = 10 ∨ c = 9 then lexF f l (i + 1)
    else if c = 35 then lexF f ((c :: l).drop (note (c :: l))) (i + note (c :: l))
    else if next (c :: l) = 0 then none
    else (lexF f ((c :: l).drop (next (c :: l))) (i + next (c :: l))).map fun T => ((c :: l).take (next (c :: l)), i) :: T
theorem note_pos (l : List UInt8) : 0 < note (35 :: l) := by
  unfold note
  rw [List.takeWhile_cons, if_pos (by decide)]
  simp
theorem lexF_stable : ∀ (n : Nat) (l : List UInt8), l.length ≤ n → ∀ f i, l.length ≤ f → lexF f l i = lexF n l i := by
  intro n
  induction n with
  | zero =>
    intro l hl f i hf
    have : l = [] := List.eq_nil_of_length_eq_zero (by omega)
    subst this
    cases f <;> rfl
  | succ n ih =>
    intro l hl f i hf
    cases l with
    | nil => cases f <;> rfl
    | cons c l =>
      simp only [List.length_cons] at hl hf
      obtain ⟨f, rfl⟩ : ∃ g, f = g + 1 := ⟨f - 1, by omega⟩
      unfold lexF
      by_cases h1 : c = 32 ∨ c = 10 ∨ c = 9
      · rw [if_pos h1, if_pos h1]
        exact ih l (by omega) f _ (by omega)
      · rw [if_neg h1, if_neg h1]
        by_cases h2 : c = 35
        · subst h2
          rw [if_pos rfl, if_pos rfl]
          have := note_pos l
          exact ih _ (by rw [List.length_drop, List.length_cons]; omega) f _ (by rw [List.length_drop, List.length_cons]; omega)
        · rw [if_neg h2, if_neg h2]
          by_cases h3 : next (c :: l) = 0
          · rw [if_pos h3, if_pos h3]
          · rw [if_neg h3, if_neg h3]
            rw [ih _ (by rw [List.length_drop, List.length_cons]; omega) f _ (by rw [List.length_drop, List.length_cons]; omega)]
/-- all tokens of a text that stands at i -/
def lexA (l : List UInt8) (i : Nat) : Option (List (List UInt8 × Nat)) := lexF l.length l i
theorem lexA_nil (i : Nat) : lexA [] i = some [] := rfl
theorem lexA_blank (c : UInt8) (l : List UInt8) (i : Nat) (h : c = 32 ∨ c = 10 ∨ c = 9) : lexA (c :: l) i = lexA l (i + 1) := by
  show lexF (l.length + 1) (c :: l) i = _
  unfold lexF
  rw [if_pos h]
  rfl
theorem lexA_note (l : List UInt8) (i : Nat) : lexA (35 :: l) i = lexA ((35 :: l).drop (note (35 :: l))) (i + note (35 :: l)) := by
  show lexF (l.length + 1) (35 :: l) i = _
  unfold lexF
  rw [if_neg (by decide), if_pos rfl]
  have := note_pos l
  exact (lexF_stable l.length _ (by rw [List.length_drop, List.length_cons]; omega) _ _ (Nat.le_refl _)).symm
theorem lexA_tok (c : UInt8) (l : List UInt8) (i : Nat) (h1 : ¬ (c = 32 ∨ c = 10 ∨ c = 9)) (h2 : c ≠ 35) (h3 : next (c :: l) ≠ 0) :
    lexA (c :: l) i = (lexA ((c :: l).drop (next (c :: l))) (i + next (c :: l))).map fun T => ((c :: l).take (next (c :: l)), i) :: T := by
  show lexF (l.length + 1) (c :: l) i = _
  rw [lexF]
  rw [if_neg h1, if_neg h2, if_neg h3]
  congr 1
  exact (lexF_stable l.length _ (by rw [List.length_drop, List.length_cons]; omega) _ _ (Nat.le_refl _)).symm
theorem lexA_bad (c : UInt8) (l : List UInt8) (i : Nat) (h1 : ¬ (c = 32 ∨ c = 10 ∨ c = 9)) (h2 : c ≠ 35) (h3 : next (c :: l) = 0) : lexA (c :: l) i = none := by
  show lexF (l.length + 1) (c :: l) i = _
  rw [lexF, if_neg h1, if_neg h2, if_pos h3]
theorem find_mark {l m : List UInt8} (h : (marks.find? fun m => m.isPrefixOf l) = some m) : m ∈ marks ∧ m <+: l := by
  have h1 := List.mem_of_find?_eq_some h
  have h2 := List.find?_some h
  exact ⟨h1, List.isPrefixOf_iff_prefix.1 h2⟩
theorem marks_ne : ∀ m ∈ marks, m ≠ [] ∧ m.length ≤ 2 := by decide
theorem markLen_le (l : List UInt8) : markLen l ≤ l.length := by
  unfold markLen
  split
  · rename_i m h
    obtain ⟨_, k, hk⟩ := find_mark h
    rw [← hk, List.length_append]; omega
  · exact Nat.zero_le _
theorem next_le (l : List UInt8) : next l ≤ l.length := by
  unfold next
  split
  · exact Nat.zero_le _
  · split
    · exact List.Sublist.length_le (List.takeWhile_sublist _)
    · exact markLen_le _
theorem note_le (l : List UInt8) : note l ≤ l.length := List.Sublist.length_le (List.takeWhile_sublist _)
/-- where the tokens stand -/
def Ok (s : List UInt8) : Nat → List (List UInt8 × Nat) → Prop
  | _, [] => True
  | at_, (x, p) :: T => at_ ≤ p ∧ x ≠ [] ∧ p + x.length ≤ s.length ∧ (s.drop p).take x.length = x ∧ Ok s (p + x.length) T
theorem ok_of : ∀ (n : Nat) (s : List UInt8) (i at_ : Nat) (T : List (List UInt8 × Nat)), (s.drop i).length ≤ n → i ≤ s.length → at_ ≤ i → lexA (s.drop i) i = some T → Ok s at_ T := by
  intro n
  induction n with
  | zero =>
    intro s i at_ T hn hi ha h
    rw [List.eq_nil_of_length_eq_zero (Nat.le_zero.1 hn)] at h
    have : T = [] := by simpa [lexA_nil] using h.symm
    subst this; trivial
  | succ n ih =>
    intro s i at_ T hn hi ha h
    cases hd : s.drop i with
    | nil =>
      rw [hd] at h
      have : T = [] := by simpa [lexA_nil] using h.symm
      subst this; trivial
    | cons c l =>
      rw [hd] at h hn
      have hil : i < s.length := by
        rcases Nat.lt_or_ge i s.length with h | h
        · exact h
        · rw [List.drop_eq_nil_of_le h] at hd; cases hd
      have hlen : (s.drop i).length = l.length + 1 := by rw [hd]; rfl
      rw [List.length_drop] at hlen
      have hdrop : ∀ k, (c :: l).drop k = s.drop (i + k) := fun k => by rw [← hd, List.drop_drop]
      simp only [List.length_cons] at hn
      by_cases h1 : c = 32 ∨ c = 10 ∨ c = 9
      · rw [lexA_blank c l i h1] at h
        have e := hdrop 1
        rw [List.drop_succ_cons, List.drop_zero] at e
        rw [e] at h
        exact ih s (i + 1) at_ T (by rw [List.length_drop]; omega) (by omega) (by omega) h
      · by_cases h2 : c = 35
        · subst h2
          rw [lexA_note l i, hdrop] at h
          have hp := note_pos l
          have hle := note_le (35 :: l)
          simp only [List.length_cons] at hle
          exact ih s _ at_ T (by rw [List.length_drop]; omega) (by omega) (by omega) h
        · by_cases h3 : next (c :: l) = 0
          · rw [lexA_bad c l i h1 h2 h3] at h; cases h
          · rw [lexA_tok c l i h1 h2 h3, hdrop] at h
            have hle := next_le (c :: l)
            simp only [List.length_cons] at hle
            cases hr : lexA (s.drop (i + next (c :: l))) (i + next (c :: l)) with
            | none => rw [hr] at h; cases h
            | some T' =>
              rw [hr, Option.map_some] at h
              have h := (Option.some.inj h).symm
              subst h
              have hl : ((c :: l).take (next (c :: l))).length = next (c :: l) := by rw [List.length_take, List.length_cons]; omega
              refine ⟨ha, ?_, ?_, ?_, ?_⟩
              · intro h; rw [h] at hl; simp at hl; omega
              · rw [hl]; omega
              · rw [hl, hd]
              · rw [hl]
                exact ih s _ _ T' (by rw [List.length_drop]; omega) (by omega) (Nat.le_refl _) hr
/-- a token stays one before any of four bytes -/
def Good (x : List UInt8) : Prop := ∃ c l, x = c :: l ∧ ¬ (c = 32 ∨ c = 10 ∨ c = 9) ∧ c ≠ 35 ∧ ∀ d rest, (d = 32 ∨ d = 10 ∨ d = 9 ∨ d = 35) → next (x ++ d :: rest) = x.length
theorem takeWhile_all (p : UInt8 → Bool) : ∀ (l : List UInt8), ∀ c ∈ l.takeWhile p, p c = true := by
  intro l
  induction l with
  | nil => intro c h; simp at h
  | cons a l ih =>
    intro c h
    rw [List.takeWhile_cons] at h
    split at h
    · rw [List.mem_cons] at h
      rcases h with rfl | h
      · assumption
      · exact ih c h
    · simp at h
theorem takeWhile_stop (p : UInt8 → Bool) (d : UInt8) (rest : List UInt8) (hd : p d = false) : ∀ (x : List UInt8), (∀ c ∈ x, p c = true) → (x ++ d :: rest).takeWhile p = x := by
  intro x
  induction x with
  | nil => intro _; rw [List.nil_append, List.takeWhile_cons, if_neg (by rw [hd]; decide)]
  | cons a x ih =>
    intro h
    rw [List.cons_append, List.takeWhile_cons, if_pos (h a List.mem_cons_self), ih fun c hc => h c (List.mem_cons_of_mem _ hc)]
theorem mark_again : ∀ m ∈ marks, ∀ d rest, (d = 32 ∨ d = 10 ∨ d = 9 ∨ d = 35) → (marks.find? fun k => k.isPrefixOf (m ++ d :: rest)) = some m := by
  intro m hm d rest hd
  simp only [marks, List.mem_cons, List.not_mem_nil, or_false] at hm
  rcases hd with rfl | rfl | rfl | rfl <;> rcases hm with rfl | rfl | rfl | rfl | rfl | rfl | rfl | rfl | rfl | rfl | rfl | rfl | rfl | rfl | rfl | rfl | rfl | rfl <;> rfl
theorem mark_head : ∀ m ∈ marks, ∃ c l, m = c :: l ∧ word c = false ∧ ¬ (c = 32 ∨ c = 10 ∨ c = 9) ∧ c ≠ 35 := by
  intro m hm
  simp only [marks, List.mem_cons, List.not_mem_nil, or_false] at hm
  rcases hm with rfl | rfl | rfl | rfl | rfl | rfl | rfl | rfl | rfl | rfl | rfl | rfl | rfl | rfl | rfl | rfl | rfl | rfl <;> exact ⟨_, _, rfl, by decide, by decide, by decide⟩
theorem word_not (d : UInt8) (h : d = 32 ∨ d = 10 ∨ d = 9 ∨ d = 35) : word d = false := by rcases h with rfl | rfl | rfl | rfl <;> decide
theorem good_of (c : UInt8) (l : List UInt8) (h1 : ¬ (c = 32 ∨ c = 10 ∨ c = 9)) (h2 : c ≠ 35) (h3 : next (c :: l) ≠ 0) : Good ((c :: l).take (next (c :: l))) := by
  by_cases hw : word c = true
  · have hn : next (c :: l) = ((c :: l).takeWhile word).length := by rw [next_cons, if_pos hw]
    have hx : (c :: l).take (next (c :: l)) = (c :: l).takeWhile word := by
      rw [hn]
      exact (List.prefix_iff_eq_take.1 (List.takeWhile_prefix word)).symm
    rw [hx]
    have hall := takeWhile_all word (c :: l)
    rw [List.takeWhile_cons, if_pos hw] at hall ⊢
    refine ⟨c, _, rfl, h1, h2, fun d rest hd => ?_⟩
    have hs := takeWhile_stop word d rest (word_not d hd) _ hall
    unfold next
    rw [List.cons_append] at hs ⊢
    simp only []
    rw [if_pos hw, hs]
  · have hn : next (c :: l) = markLen (c :: l) := by rw [next_cons, if_neg hw]
    rw [hn] at h3 ⊢
    unfold markLen at h3 ⊢
    cases hf : marks.find? fun m => m.isPrefixOf (c :: l) with
    | none => rw [hf] at h3; exact absurd rfl h3
    | some m =>
      obtain ⟨hm, k, hk⟩ := find_mark hf
      simp only []
      have hx : (c :: l).take m.length = m := by rw [← hk]; exact List.take_left
      rw [hx]
      obtain ⟨a, r, he, hwa, g1, g2⟩ := mark_head m hm
      refine ⟨a, r, he, g1, g2, fun d rest hd => ?_⟩
      have := mark_again m hm d rest hd
      rw [he] at this ⊢
      rw [List.cons_append] at this ⊢
      unfold next
      simp only []
      rw [if_neg (by rw [hwa]; decide)]
      unfold markLen
      rw [this]
theorem good_all : ∀ (n : Nat) (l : List UInt8) (i : Nat) (T : List (List UInt8 × Nat)), l.length ≤ n → lexA l i = some T → ∀ t ∈ T, Good t.1 := by
  intro n
  induction n with
  | zero =>
    intro l i T hn h
    rw [List.eq_nil_of_length_eq_zero (Nat.le_zero.1 hn)] at h
    have : T = [] := by simpa [lexA_nil] using h.symm
    subst this; intro t ht; simp at ht
  | succ n ih =>
    intro l i T hn h
    cases l with
    | nil =>
      have : T = [] := by simpa [lexA_nil] using h.symm
      subst this; intro t ht; simp at ht
    | cons c l =>
      simp only [List.length_cons] at hn
      by_cases h1 : c = 32 ∨ c = 10 ∨ c = 9
      · rw [lexA_blank c l i h1] at h
        exact ih l _ T (by omega) h
      · by_cases h2 : c = 35
        · subst h2
          rw [lexA_note l i] at h
          have hp := note_pos l
          exact ih _ _ T (by rw [List.length_drop, List.length_cons]; omega) h
        · by_cases h3 : next (c :: l) = 0
          · rw [lexA_bad c l i h1 h2 h3] at h; cases h
          · rw [lexA_tok c l i h1 h2 h3] at h
            cases hr : lexA ((c :: l).drop (next (c :: l))) (i + next (c :: l)) with
            | none => rw [hr] at h; cases h
            | some T' =>
              rw [hr, Option.map_some] at h
              have h := (Option.some.inj h).symm
              subst h
              intro t ht
              rw [List.mem_cons] at ht
              rcases ht with rfl | ht
              · exact good_of c l h1 h2 h3
              · exact ih _ _ T' (by rw [List.length_drop, List.length_cons]; omega) hr t ht
def seps : List (List UInt8) := [[32], [10], [9, 32], [35, 120, 61, 61, 49, 10]]
theorem sep_skip (sep : List UInt8) (h : sep ∈ seps) (rest : List UInt8) (i : Nat) : (∃ d r, sep = d :: r ∧ (d = 32 ∨ d = 10 ∨ d = 9 ∨ d = 35)) ∧ lexA (sep ++ rest) i = lexA rest (i + sep.length) := by
  simp only [seps, List.mem_cons, List.not_mem_nil, or_false] at h
  rcases h with rfl | rfl | rfl | rfl
  · exact ⟨⟨_, _, rfl, by decide⟩, lexA_blank _ _ _ (by decide)⟩
  · exact ⟨⟨_, _, rfl, by decide⟩, lexA_blank _ _ _ (by decide)⟩
  · refine ⟨⟨_, _, rfl, by decide⟩, ?_⟩
    show lexA (9 :: 32 :: rest) i = _
    rw [lexA_blank 9 _ _ (by decide), lexA_blank 32 _ _ (by decide)]
    rfl
  · refine ⟨⟨_, _, rfl, by decide⟩, ?_⟩
    show lexA (35 :: 120 :: 61 :: 61 :: 49 :: 10 :: rest) i = _
    have hn : note (35 :: 120 :: 61 :: 61 :: 49 :: 10 :: rest) = 5 := rfl
    rw [lexA_note, hn]
    show lexA (10 :: rest) (i + 5) = _
    rw [lexA_blank 10 _ _ (by decide)]
    rfl
/-- tokens written one behind the other, each with something behind it -/
def join (T : List (List UInt8 × Nat)) (sep : List UInt8) : List UInt8 := T.flatMap fun t => t.1 ++ sep
theorem join_snoc (T : List (List UInt8 × Nat)) (t : List UInt8 × Nat) (sep : List UInt8) : join (T ++ [t]) sep = join T sep ++ (t.1 ++ sep) := by simp [join]
/-- THE SAME TOKENS AGAIN -/
theorem again (sep : List UInt8) (hsep : sep ∈ seps) : ∀ (T : List (List UInt8 × Nat)) (i : Nat), (∀ t ∈ T, Good t.1) → ∃ T', lexA (join T sep) i = some T' ∧ T'.map Prod.fst = T.map Prod.fst := by
  intro T
  induction T with
  | nil => intro i _; exact ⟨[], rfl, rfl⟩
  | cons t T ih =>
    intro i h
    obtain ⟨c, l, he, g1, g2, g3⟩ := h t List.mem_cons_self
    have hj : join (t :: T) sep = t.1 ++ (sep ++ join T sep) := by simp [join]
    obtain ⟨⟨d, r, hd, hd2⟩, _⟩ := sep_skip sep hsep [] 0
    have hn : next (t.1 ++ (sep ++ join T sep)) = t.1.length := by
      rw [hd, List.cons_append]
      exact g3 d _ hd2
    obtain ⟨T', h1, h2⟩ := ih (i + t.1.length + sep.length) fun k hk => h k (List.mem_cons_of_mem _ hk)
    refine ⟨(t.1, i) :: T', ?_, by simp [h2]⟩
    rw [hj]
    have hpos : t.1.length ≠ 0 := by rw [he]; simp
    have key := lexA_tok c (l ++ (sep ++ join T sep)) i g1 g2
    rw [← List.cons_append, ← he, hn] at key
    rw [key hpos, List.drop_left, List.take_left, (sep_skip sep hsep _ _).2, h1]
    rfl
end Lex
end Go.Proofs.YtlomecfhobehnaaGreatDoor
end
section
/- Memory: a row of cells in a block, known from a place on; laws for make, bytes of a string, and back. No program in sight. -/
namespace Go.Proofs.YtlomecfhobehnaaGreatDoor
open Go.RowKit
set_option linter.unusedVariables false
set_option linter.unusedSimpArgs false

/-- block g holds the cells xs, of element type e, from place off on; none of them is frozen -/
def RowAt (w : World) (g off : Nat) (e : TypeId) (xs : List Value) : Prop :=
  ∃ cur fz, w.heap[g]? = some (.cells cur e fz) ∧ (∀ i, i < xs.length → cur[off + i]? = xs[i]?) ∧ (∀ i, i < xs.length → fz.1 ≤ off + i → fz.2 ≤ off + i)

section
variable {w w' : World} {g off : Nat} {e : TypeId} {xs : List Value}
theorem RowAt.lt (h : RowAt w g off e xs) : g < w.heap.size := by
  obtain ⟨cur, fz, h, _⟩ := h
  rcases Nat.lt_or_ge g w.heap.size with hlt | hge
  · exact hlt
  · rw [Array.getElem?_eq_none hge] at h; cases h
theorem RowAt.cell? (h : RowAt w g off e xs) (i : Nat) (hi : i < xs.length) : w.cell? ⟨g, off + i, none⟩ = xs[i]? := by
  obtain ⟨cur, fz, h, hc, _⟩ := h
  rw [cell_of_row w g (off + i) cur e fz h, hc i hi]
theorem RowAt.cell (h : RowAt w g off e xs) (i : Nat) (hi : i < xs.length) : w.cell? ⟨g, off + i, none⟩ = some xs[i] := by
  rw [h.cell? i hi, List.getElem?_eq_getElem hi]
theorem RowAt.cell0 (h : RowAt w g 0 e xs) (i : Nat) (hi : i < xs.length) : w.cell? ⟨g, i, none⟩ = some xs[i] := by
  have := h.cell i hi; rwa [Nat.zero_add] at this
theorem RowAt.frozen (h : RowAt w g off e xs) (i : Nat) (hi : i < xs.length) : w.frozen? ⟨g, off + i, none⟩ = false := by
  obtain ⟨cur, fz, h, _, hf⟩ := h
  have := hf i hi
  simp only [World.frozen?, h]
  by_cases h1 : fz.1 ≤ off + i
  · simp [h1]; exact this h1
  · simp [h1]
theorem RowAt.frozen0 (h : RowAt w g 0 e xs) (i : Nat) (hi : i < xs.length) : w.frozen? ⟨g, i, none⟩ = false := by
  have := h.frozen i hi; rwa [Nat.zero_add] at this
theorem RowAt.of_heap (h : RowAt w g off e xs) (hh : w'.heap[g]? = w.heap[g]?) : RowAt w' g off e xs := by
  obtain ⟨cur, fz, h, r⟩ := h
  exact ⟨cur, fz, hh.trans h, r⟩
theorem RowAt.drew (h : RowAt w g off e xs) : RowAt w.drew g off e xs := h
theorem RowAt.drewN (h : RowAt w g off e xs) (n : Nat) : RowAt (w.drewN n) g off e xs := h
theorem RowAt.alloc (h : RowAt w g off e xs) (o : Obj) : RowAt (w.alloc o) g off e xs := h.of_heap (Below.heap_alloc w o g h.lt)
theorem RowAt.far (h : RowAt w g off e xs) {p : Addr} (hp : g ≠ p.block) (u : Value) : RowAt (w.setCell p u) g off e xs := h.of_heap (Below.heap_setCell w p u g hp)
theorem RowAt.below {B : Nat} (h : RowAt w g off e xs) (hb : Below B w w') (hg : g < B) : RowAt w' g off e xs := h.of_heap (hb.block g hg)
theorem RowAt.set (h : RowAt w g off e xs) (i : Nat) (hi : i < xs.length) (u : Value) : RowAt (w.setCell ⟨g, off + i, none⟩ u) g off e (xs.set i u) := by
  obtain ⟨cur, fz, h, hc, hf⟩ := h
  have hlt : off + i < cur.size := by
    have := hc i hi
    rw [List.getElem?_eq_getElem hi] at this
    rcases Nat.lt_or_ge (off + i) cur.size with h1 | h1
    · exact h1
    · rw [Array.getElem?_eq_none h1] at this; cases this
  refine ⟨cur.setIfInBounds (off + i) u, fz, ?_, ?_, ?_⟩
  · simp [World.setCell, Array.getElem?_modify, h]
  · intro j hj
    rw [List.length_set] at hj
    rw [Array.getElem?_setIfInBounds, List.getElem?_set]
    by_cases hij : i = j
    · subst hij; simp [hlt, hi]
    · rw [if_neg (by omega), if_neg hij]; exact hc j hj
  · intro j hj; exact hf j (by simpa using hj)
theorem RowAt.set0 (h : RowAt w g 0 e xs) (i : Nat) (hi : i < xs.length) (u : Value) : RowAt (w.setCell ⟨g, i, none⟩ u) g 0 e (xs.set i u) := by
  have := h.set i hi u; rwa [Nat.zero_add] at this
theorem RowAt.new (w : World) (e : TypeId) (cs : Array Value) : RowAt (w.alloc (.cells cs e)) w.heap.size 0 e cs.toList :=
  ⟨cs, (0, 0), heap_alloc_new w _, fun i hi => by rw [Nat.zero_add]; simp, fun i _ _ => by simp⟩
/-- a part of a row -/
theorem RowAt.part (h : RowAt w g off e xs) (k n : Nat) : RowAt w g (off + k) e ((xs.drop k).take n) := by
  obtain ⟨cur, fz, h, hc, hf⟩ := h
  refine ⟨cur, fz, h, ?_, ?_⟩
  · intro i hi
    have hi' : i < n ∧ i < xs.length - k := by rw [List.length_take, List.length_drop] at hi; omega
    rw [List.getElem?_take, if_pos hi'.1, List.getElem?_drop, Nat.add_assoc]
    exact hc (k + i) (by omega)
  · intro i hi
    have hi' : i < n ∧ i < xs.length - k := by rw [List.length_take, List.length_drop] at hi; omega
    have := hf (k + i) (by omega)
    rwa [← Nat.add_assoc] at this
end

/-- a byte as a cell -/
def bval (b : UInt8) : Value := .int .u8 ((b.toNat : Nat) : Int)
def bvals (l : List UInt8) : List Value := l.map bval
theorem bvals_length (l : List UInt8) : (bvals l).length = l.length := by simp [bvals]
theorem bvals_get (l : List UInt8) (i : Nat) (h : i < (bvals l).length) : (bvals l)[i] = .int .u8 (((l.getD i 0).toNat : Nat) : Int) := by
  have h' : i < l.length := by simpa [bvals] using h
  simp [bvals, bval, List.getD_eq_getElem?_getD, List.getElem?_eq_getElem h']
theorem bvals_set (l : List UInt8) (i : Nat) (b : UInt8) : (bvals l).set i (bval b) = bvals (l.set i b) := by
  simp [bvals, List.map_set]

section
variable {P : Program}
/-- the cells of a row of bytes: read -/
theorem RowAt.byte {w : World} {g off : Nat} {e : TypeId} {l : List UInt8} (h : RowAt w g off e (bvals l)) (i : Nat) (hi : i < l.length) :
    w.cell? ⟨g, off + i, none⟩ = some (.int .u8 (((l.getD i 0).toNat : Nat) : Int)) := by
  rw [h.cell i (by simpa [bvals] using hi), bvals_get]
theorem RowAt.byte0 {w : World} {g : Nat} {e : TypeId} {l : List UInt8} (h : RowAt w g 0 e (bvals l)) (i : Nat) (hi : i < l.length) :
    w.cell? ⟨g, i, none⟩ = some (.int .u8 (((l.getD i 0).toNat : Nat) : Int)) := by
  have := h.byte i hi; rwa [Nat.zero_add] at this
/-- a row of bytes as a string -/
theorem run_string_of {w : World} {g off : Nat} {l : List UInt8} (src e dst : TypeId) (hs : P.underlying src = some (.slice e)) (he : P.underlying e = some (.int .u8)) (hd : P.underlying dst = some .string)
    (h : RowAt w g off e (bvals l)) (n cap : Nat) (hn : n = l.length) :
    (convert src dst (.slice (some ⟨g, off, none⟩) n cap)).run P w = .ok (.string (bstr l)) w := by
  have := run_convert_bytes_arg (P := P) w src e hs he g off n cap (l.map fun b => ((b.toNat : Nat) : Int)) (by simp [hn]) (fun i hi => by
    rw [h.byte i (by omega)]
    congr 2
    rw [List.getD_eq_getElem?_getD, List.getD_eq_getElem?_getD, List.getElem?_map]
    have h' : i < l.length := by omega
    simp [List.getElem?_eq_getElem h']) dst hd
  rw [this, strOfNums_eq]
  congr 3
  rw [List.map_map]
  conv => rhs; rw [← List.map_id l]
  apply List.map_congr_left
  intro b _
  simp

theorem rowAt_bytesRow (w : World) (e : TypeId) (s : ByteArray) (cap : Nat) (hc : s.size ≤ cap) :
    RowAt (w.drew.alloc (.cells (bytesRow s cap) e ((bytesRow s cap).size, (bytesRow s cap).size + 1))) w.heap.size 0 e (bvals s.data.toList) := by
  refine ⟨bytesRow s cap, _, heap_alloc_new w.drew _, ?_, ?_⟩
  · intro i hi
    have hi' : i < s.data.size := by simpa [bvals] using hi
    rw [Nat.zero_add]
    have hi2 : i < s.size := hi'
    simp [bytesRow, bvals, Array.getElem?_append, hi2]
    rfl
  · intro i hi
    have hi' : i < s.data.size := by simpa [bvals] using hi
    intro h
    exfalso
    simp only [bytesRow, Array.size_append, Array.size_map, Array.size_replicate] at h
    omega

theorem grownCap_le (w : World) (n e : Nat) : n ≤ grownCap w n 0 e := by
  unfold grownCap Question.cut
  simp
/-- '[]byte(s)' -/
theorem wpList_bytes (w : World) {ops : Array Oper} {rest : List Oper} {o : Oper} {a : Act} {Q : Exit → Act → World → Prop} (hg : o.guard = none) (x : Operand) (src dst e : TypeId)
    (hop : o.op = Op.convert src dst x) (hs : P.underlying src = some .string) (hd : P.underlying dst = some (.slice e)) (he : P.underlying e = some (.int .u8)) (s : ByteArray) (hx : a.eval x = .string s)
    (hK : ∀ w' cap, s.size ≤ cap → RowAt w' w.heap.size 0 e (bvals s.data.toList) → Below w.heap.size w w' → w.heap.size < w'.heap.size →
      wpList P ops Q rest (a.put o.dst (.slice (some ⟨w.heap.size, 0, none⟩) s.size cap)) w') :
    wpList P ops Q (o :: rest) a w := by
  refine wpList_plain hg fun K hK' => ?_
  have hrun := run_bytes_of_string (P := P) w src dst e s hs hd he
  unfold Oper.wp
  simp only [execOp, hop, hx, Sem.run_bind, hrun, Result.andThen_ok, Sem.run_pure]
  exact hK' _ _ (hK _ _ (grownCap_le _ _ _) (rowAt_bytesRow w e s _ (grownCap_le _ _ _)) ((Below.refl _ _).drew.alloc (Nat.le_refl _) _) (by simp))
/-- 'make([]T, n)', elements of one cell -/
theorem wpList_make0 (w : World) {ops : Array Oper} {rest : List Oper} {o : Oper} {a : Act} {Q : Exit → Act → World → Prop} (hg : o.guard = none) (l c : Operand) (t : TypeId)
    (hop : o.op = Op.makeSlice t l c) (e : TypeId) (i : TypeInfo) (z : Value) (h1 : P.underlying t = some (.slice e)) (h2 : P.info? e = some i) (h3 : i.zero = some z) (h4 : i.size = 1) (h5 : z.cells = #[z])
    (kl kc : IntKind) (L C : Int) (n : Nat) (hl : a.eval l = .int kl L) (hc : a.eval c = .int kc C) (hL : L = (n : Int)) (hC : C = (n : Int)) (b2 : i.bytes * n ≤ 281474976710656) (b3 : n ≤ maxLen)
    (hK : ∀ w', RowAt w' w.heap.size 0 e (List.replicate n z) → Below w.heap.size w w' → w.heap.size < w'.heap.size → wpList P ops Q rest (a.put o.dst (.slice (some ⟨w.heap.size, 0, none⟩) n n)) w') :
    wpList P ops Q (o :: rest) a w := by
  refine wpList_plain hg fun K hK' => ?_
  subst hL hC
  have h63' : (n : Int) ≤ 9223372036854775807 := by
    have h := b3
    simp [maxLen] at h
    omega
  have hb' : (i.bytes : Int) * (n : Int) ≤ 281474976710656 := by
    have h : ((i.bytes * n : Nat) : Int) ≤ 281474976710656 := by omega
    rwa [Int.natCast_mul] at h
  have hrun := run_make (P := P) w t e i z h1 h2 h3 kl kc n n (by omega) (Int.le_refl _) hb' h63'
  simp only [Int.toNat_natCast, h4, Nat.mul_one] at hrun
  have hr := RowAt.new w e (madeCells z.cells n)
  rw [h5, toList_madeCells_one] at hr
  rw [h5] at hrun
  unfold Oper.wp
  simp only [execOp, hop, hl, hc, Sem.run_bind, hrun, Result.andThen_ok, Sem.run_pure]
  exact hK' _ _ (hK _ hr ((Below.refl _ _).alloc (Nat.le_refl _) _) (by simp))
end
theorem byteAt (s : ByteArray) (i : Nat) (h : i < s.size) : s[i] = s.data.toList.getD i 0 := by
  have h' : i < s.data.toList.length := by rw [Array.length_toList]; exact h
  rw [List.getD_eq_getElem?_getD, List.getElem?_eq_getElem h']
  rfl
/-- a row that is filled from its head on -/
def fillTo (full : List UInt8) (k : Nat) : List UInt8 := full.take k ++ List.replicate (full.length - k) 0
theorem fillTo_length (full : List UInt8) (k : Nat) (h : k ≤ full.length) : (fillTo full k).length = full.length := by
  simp [fillTo]; omega
theorem fillTo_zero (full : List UInt8) : bvals (fillTo full 0) = List.replicate full.length (.int .u8 0) := by
  simp [fillTo, bvals, bval]
theorem fillTo_full (full : List UInt8) : fillTo full full.length = full := by simp [fillTo]
theorem fillTo_step (full : List UInt8) (k : Nat) (h : k < full.length) : (fillTo full k).set k (full.getD k 0) = fillTo full (k + 1) := by
  have hl : (full.take k).length = k := by rw [List.length_take]; omega
  unfold fillTo
  rw [List.set_append_right _ _ (by omega), hl, Nat.sub_self, show full.length - k = (full.length - (k + 1)) + 1 from by omega, List.replicate_succ, List.set_cons_zero, List.take_succ_eq_append_getElem h, List.append_assoc, List.getD_eq_getElem?_getD, List.getElem?_eq_getElem h]
  rfl
theorem RowAt.fill {w : World} {g : Nat} {e : TypeId} {full : List UInt8} {k : Nat} (h : RowAt w g 0 e (bvals (fillTo full k))) (hk : k < full.length) {v : Value} (hv : v = bval (full.getD k 0)) :
    RowAt (w.setCell ⟨g, k, none⟩ v) g 0 e (bvals (fillTo full (k + 1))) := by
  have := h.set0 k (by rw [bvals_length, fillTo_length _ _ (by omega)]; exact hk) (bval (full.getD k 0))
  rw [bvals_set, fillTo_step _ _ hk] at this
  rw [hv]; exact this
end Go.Proofs.YtlomecfhobehnaaGreatDoor
end
