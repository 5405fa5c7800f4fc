/- Package lz, plain: what is told by what stood already; how long it is. No program in sight. -/
import Derived.Test.YtnldobfafaajjaaCommon
namespace Go.Proofs.Ytnldobfafaajjaa
set_option linter.unusedVariables false
set_option linter.unusedSimpArgs false
namespace Lz
/-- a text goes on for n bytes as it did so far back -/
def copy (t : List UInt8) (back : Nat) : Nat → List UInt8
  | 0 => t
  | n + 1 => copy (t ++ [t.getD (t.length - back) 0]) back n
theorem copy_length (t : List UInt8) (back n : Nat) : (copy t back n).length = t.length + n := by
  induction n generalizing t with
  | zero => rfl
  | succ n ih => rw [copy, ih, List.length_append]; simp; omega
theorem copy_succ (t : List UInt8) (back n : Nat) : copy t back (n + 1) = copy t back n ++ [(copy t back n).getD ((copy t back n).length - back) 0] := by
  induction n generalizing t with
  | zero => rfl
  | succ n ih => rw [copy, ih, copy]
/-- what is told: bytes as they are, or so many bytes from so far back -/
inductive Tok where
  | plain (p : List UInt8)
  | back (b n : Nat)
def Tok.bytes : Tok → List UInt8
  | .plain p => UInt8.ofNat (p.length - 1) :: p
  | .back b n => [UInt8.ofNat (128 + n - 3), UInt8.ofNat (b / 256), UInt8.ofNat (b % 256)]
def Tok.text (t : List UInt8) : Tok → List UInt8
  | .plain p => t ++ p
  | .back b n => copy t b n
def Tok.ok (t : List UInt8) : Tok → Prop
  | .plain p => 1 ≤ p.length ∧ p.length ≤ 128
  | .back b n => 3 ≤ n ∧ n ≤ 130 ∧ 1 ≤ b ∧ b ≤ 1023 ∧ b ≤ t.length
/-- these tell this text -/
inductive Tells : List Tok → List UInt8 → Prop where
  | nil : Tells [] []
  | snoc {l : List Tok} {t : List UInt8} (k : Tok) (h : Tells l t) (ok : k.ok t) : Tells (l ++ [k]) (k.text t)
def textOf (l : List Tok) : List UInt8 := l.foldl Tok.text []
theorem Tells.eq {l : List Tok} {t : List UInt8} (h : Tells l t) : t = textOf l := by
  induction h with
  | nil => rfl
  | snoc k h ok ih => unfold textOf at *; rw [List.foldl_append, ← ih]; rfl
theorem Tok.text_length (t : List UInt8) (k : Tok) : t.length ≤ (k.text t).length := by
  cases k with
  | plain p => simp [Tok.text]
  | back b n => rw [Tok.text, copy_length]; omega
theorem fold_length (l : List Tok) (t : List UInt8) : t.length ≤ (l.foldl Tok.text t).length := by
  induction l generalizing t with
  | nil => exact Nat.le_refl _
  | cons k l ih => exact Nat.le_trans (Tok.text_length t k) (ih _)
theorem textOf_take (l : List Tok) (q : Nat) : (textOf (l.take q)).length ≤ (textOf l).length := by
  conv => rhs; rw [← List.take_append_drop q l]
  unfold textOf
  rw [List.foldl_append]
  exact fold_length _ _
def bytes (l : List Tok) : List UInt8 := l.flatMap Tok.bytes
theorem bytes_snoc (l : List Tok) (k : Tok) : bytes (l ++ [k]) = bytes l ++ k.bytes := by simp [bytes]
theorem bytes_at (l : List Tok) (q : Nat) (k : Tok) (h : l[q]? = some k) : bytes l = bytes (l.take q) ++ (k.bytes ++ bytes (l.drop (q + 1))) := by
  have hq : q < l.length := by
    rcases Nat.lt_or_ge q l.length with h1 | h1
    · exact h1
    · rw [List.getElem?_eq_none h1] at h; cases h
  have e : l = l.take q ++ k :: l.drop (q + 1) := by
    rw [List.getElem?_eq_getElem hq] at h
    injection h with h
    rw [← h, ← List.drop_eq_getElem_cons hq, List.take_append_drop]
  conv => lhs; rw [e]
  simp [bytes]
theorem bytes_take (l : List Tok) (q : Nat) (k : Tok) (h : l[q]? = some k) : bytes (l.take (q + 1)) = bytes (l.take q) ++ k.bytes := by
  have hq : q < l.length := by
    rcases Nat.lt_or_ge q l.length with h1 | h1
    · exact h1
    · rw [List.getElem?_eq_none h1] at h; cases h
  rw [List.getElem?_eq_getElem hq] at h
  injection h with h
  rw [List.take_succ_eq_append_getElem hq, bytes_snoc, h]
/-- all beginnings of what is told are told -/
theorem Tells.take {l : List Tok} {t : List UInt8} (h : Tells l t) : ∀ i, i < l.length → ∃ u : List UInt8, Tells (l.take i) u ∧ ∃ k, l[i]? = some k ∧ k.ok u ∧ Tells (l.take (i + 1)) (k.text u) := by
  induction h with
  | nil => intro i hi; simp at hi
  | @snoc l t k h ok ih =>
    intro i hi
    rw [List.length_append, List.length_singleton] at hi
    rcases Nat.lt_or_ge i l.length with h1 | h1
    · obtain ⟨u, h2, k2, h3, h4, h5⟩ := ih i h1
      refine ⟨u, ?_, k2, ?_, h4, ?_⟩
      · rw [List.take_append_of_le_length (by omega)]; exact h2
      · rw [List.getElem?_append_left h1]; exact h3
      · rw [List.take_append_of_le_length (by omega)]; exact h5
    · obtain rfl : i = l.length := by omega
      refine ⟨t, ?_, k, by simp, ok, ?_⟩
      · rw [List.take_append_of_le_length (Nat.le_refl _), List.take_length]; exact h
      · rw [List.take_of_length_le (by simp)]; exact .snoc k h ok
/-- what l has from j on is what it has from at on, for n bytes -/
def Same (l : List UInt8) (j at_ n : Nat) : Prop := at_ + n ≤ l.length ∧ ∀ i, i < n → l.getD (j + i) 0 = l.getD (at_ + i) 0
theorem take_snoc (l : List UInt8) (k : Nat) (h : k < l.length) : l.take (k + 1) = l.take k ++ [l.getD k 0] := by
  rw [List.take_succ_eq_append_getElem h, List.getD_eq_getElem?_getD, List.getElem?_eq_getElem h]; rfl
theorem getD_take (l : List UInt8) (k i : Nat) (h : i < k) : (l.take k).getD i 0 = l.getD i 0 := by
  rw [List.getD_eq_getElem?_getD, List.getElem?_take, if_pos h, ← List.getD_eq_getElem?_getD]
theorem copy_same (l : List UInt8) (j at_ n : Nat) (hj : j < at_) (h : Same l j at_ n) : copy (l.take at_) (at_ - j) n = l.take (at_ + n) := by
  obtain ⟨h1, h2⟩ := h
  induction n with
  | zero => rfl
  | succ n ih =>
    have e := ih (by omega) (fun i hi => h2 i (by omega))
    rw [copy_succ, e, ← Nat.add_assoc, take_snoc l (at_ + n) (by omega)]
    have hl : (l.take (at_ + n)).length = at_ + n := by rw [List.length_take]; omega
    rw [hl, getD_take _ _ _ (by omega), show at_ + n - (at_ - j) = j + n by omega, h2 n (by omega)]
/-- the tokens' cost -/
def plains (l : List Tok) : Nat := (l.filter fun | .plain _ => true | .back _ _ => false).length
theorem plains_snoc_plain (l : List Tok) (p : List UInt8) : plains (l ++ [.plain p]) = plains l + 1 := by simp [plains]
theorem plains_snoc_back (l : List Tok) (b n : Nat) : plains (l ++ [.back b n]) = plains l := by simp [plains]
/-- where Pack stands: told: what is told already; pl: bytes that are not told yet -/
structure At (l : List UInt8) (at_ : Nat) (toks : List Tok) (pl : List UInt8) : Prop where
  le : at_ ≤ l.length
  pll : pl.length ≤ at_
  small : pl.length < 128
  tells : Tells toks (l.take (at_ - pl.length))
  rest : pl = (l.take at_).drop (at_ - pl.length)
  few : 4 * plains toks ≤ at_ - pl.length
  cost : (bytes toks).length ≤ at_ - pl.length + plains toks
theorem At.start (l : List UInt8) : At l 0 [] [] := ⟨Nat.zero_le _, Nat.le_refl _, by decide, .nil, by simp, by simp [plains], by simp [bytes]⟩
/-- what the waiting bytes are told by -/
def flushed (toks : List Tok) (pl : List UInt8) : List Tok := if pl = [] then toks else toks ++ [.plain pl]
theorem flushed_tells {l : List UInt8} {at_ : Nat} {toks : List Tok} {pl : List UInt8} (h : At l at_ toks pl) : Tells (flushed toks pl) (l.take at_) := by
  unfold flushed
  by_cases hp : pl = []
  · rw [if_pos hp]
    have := h.tells
    rw [hp] at this
    exact this
  · rw [if_neg hp]
    have h1 := h.tells
    have h2 : 1 ≤ pl.length := by cases pl with
      | nil => exact absurd rfl hp
      | cons _ _ => simp
    have := Tells.snoc (.plain pl) h1 ⟨h2, by have := h.small; omega⟩
    have e : (Tok.plain pl).text (l.take (at_ - pl.length)) = l.take at_ := by
      show l.take (at_ - pl.length) ++ pl = l.take at_
      have h3 := h.rest
      have h4 := h.pll
      conv => lhs; rw [h3]
      have h5 : (List.drop (at_ - pl.length) (List.take at_ l)).length = pl.length := by rw [← h3]
      rw [h5]
      have : l.take (at_ - pl.length) = (l.take at_).take (at_ - pl.length) := by rw [List.take_take, Nat.min_eq_left (by omega)]
      rw [this, List.take_append_drop]
    rwa [e] at this
theorem flushed_bytes (toks : List Tok) (pl : List UInt8) : bytes (flushed toks pl) = if pl = [] then bytes toks else bytes toks ++ (UInt8.ofNat (pl.length - 1) :: pl) := by
  unfold flushed
  split
  · rfl
  · rw [bytes_snoc]; rfl
/-- one more byte waits; 128 of them are told -/
theorem At.byte {l : List UInt8} {at_ : Nat} {toks : List Tok} {pl : List UInt8} (h : At l at_ toks pl) (hlt : at_ < l.length) :
    if pl.length + 1 = 128 then At l (at_ + 1) (toks ++ [.plain (pl ++ [l.getD at_ 0])]) [] else At l (at_ + 1) toks (pl ++ [l.getD at_ 0]) := by
  have hp := h.pll
  have hrest : pl ++ [l.getD at_ 0] = (l.take (at_ + 1)).drop (at_ - pl.length) := by
    rw [take_snoc l at_ hlt, List.drop_append_of_le_length (by rw [List.length_take]; omega)]
    rw [← h.rest]
  have hlen : (pl ++ [l.getD at_ 0]).length = pl.length + 1 := by simp
  split
  · rename_i h128
    have htell : Tells (toks ++ [.plain (pl ++ [l.getD at_ 0])]) (l.take (at_ + 1)) := by
      have := Tells.snoc (.plain (pl ++ [l.getD at_ 0])) h.tells ⟨by omega, by omega⟩
      have e : (Tok.plain (pl ++ [l.getD at_ 0])).text (l.take (at_ - pl.length)) = l.take (at_ + 1) := by
        show l.take (at_ - pl.length) ++ (pl ++ [l.getD at_ 0]) = l.take (at_ + 1)
        rw [hrest]
        have : l.take (at_ - pl.length) = (l.take (at_ + 1)).take (at_ - pl.length) := by rw [List.take_take, Nat.min_eq_left (by omega)]
        rw [this, List.take_append_drop]
      rwa [e] at this
    have h4 := h.few
    have h5 := h.cost
    refine ⟨by omega, by simp, by simp, by simpa using htell, by simp, ?_, ?_⟩
    · rw [plains_snoc_plain]; simp; omega
    · rw [plains_snoc_plain, bytes_snoc, List.length_append]
      simp [Tok.bytes]
      omega
  · rename_i h128
    have h4 := h.few
    have h5 := h.cost
    have h6 := h.small
    have e : at_ + 1 - (pl ++ [l.getD at_ 0]).length = at_ - pl.length := by rw [hlen]; omega
    refine ⟨by omega, by rw [hlen]; omega, by rw [hlen]; omega, ?_, ?_, ?_, ?_⟩
    · rw [e]; exact h.tells
    · rw [e]; exact hrest
    · rw [e]; exact h4
    · rw [e]; exact h5
/-- so many bytes from so far back -/
theorem At.back {l : List UInt8} {at_ : Nat} {toks : List Tok} {pl : List UInt8} (h : At l at_ toks pl) (b n : Nat) (h1 : 3 ≤ n) (h2 : n ≤ 130) (h3 : 1 ≤ b) (h4 : b ≤ 1023) (h5 : b ≤ at_) (hs : Same l (at_ - b) at_ n) :
    At l (at_ + n) (flushed toks pl ++ [.back b n]) [] := by
  have ht := flushed_tells h
  have hle := h.le
  have hlt : (l.take at_).length = at_ := by rw [List.length_take]; omega
  have hb := Tells.snoc (.back b n) ht ⟨h1, h2, h3, h4, by rw [hlt]; exact h5⟩
  have e : (Tok.back b n).text (l.take at_) = l.take (at_ + n) := by
    show copy (l.take at_) b n = _
    have := copy_same l (at_ - b) at_ n (by omega) hs
    rwa [show at_ - (at_ - b) = b by omega] at this
  rw [e] at hb
  have hpl : plains (flushed toks pl) ≤ plains toks + 1 ∧ 4 * plains (flushed toks pl) ≤ at_ + 3 ∧ (bytes (flushed toks pl)).length ≤ at_ + plains (flushed toks pl) := by
    have c1 := h.few
    have c2 := h.cost
    have c3 := h.pll
    unfold flushed
    by_cases hp : pl = []
    · rw [if_pos hp]
      subst hp
      simp at c1 c2
      exact ⟨by omega, by omega, by omega⟩
    · rw [if_neg hp, plains_snoc_plain, bytes_snoc, List.length_append]
      have : 1 ≤ pl.length := by cases pl with
        | nil => exact absurd rfl hp
        | cons _ _ => simp
      simp [Tok.bytes]
      omega
  refine ⟨hs.1, by simp, by simp, by simpa using hb, by simp, ?_, ?_⟩
  · rw [plains_snoc_back]; simp; omega
  · rw [plains_snoc_back, bytes_snoc, List.length_append]
    simp [Tok.bytes]
    omega
/-- all is told -/
theorem At.done {l : List UInt8} {toks : List Tok} {pl : List UInt8} (h : At l l.length toks pl) : Tells (flushed toks pl) l ∧ (bytes (flushed toks pl)).length ≤ l.length + (l.length + 3) / 4 := by
  have ht := flushed_tells h
  rw [List.take_length] at ht
  refine ⟨ht, ?_⟩
  have c1 := h.few
  have c2 := h.cost
  have c3 := h.pll
  unfold flushed
  by_cases hp : pl = []
  · rw [if_pos hp]
    subst hp
    simp at c1 c2
    omega
  · rw [if_neg hp, bytes_snoc, List.length_append]
    have : 1 ≤ pl.length := by cases pl with
      | nil => exact absurd rfl hp
      | cons _ _ => simp
    simp [Tok.bytes]
    omega
end Lz
end Go.Proofs.Ytnldobfafaajjaa
