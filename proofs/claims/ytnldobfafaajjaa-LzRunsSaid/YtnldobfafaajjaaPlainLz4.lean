/- Package lz, plain: what a text costs that is there again and again. No program in sight. -/
import Derived.Test.YtnldobfafaajjaaPlainLz2
namespace Go.Proofs.Ytnldobfafaajjaa
set_option linter.unusedVariables false
set_option linter.unusedSimpArgs false
namespace Lz
theorem At.cost2 {l : List UInt8} {a : Nat} {toks : List Tok} {pl : List UInt8} (h : At l a toks pl) : (bytes (flushed toks pl)).length ≤ a + (a + 3) / 4 := by
  have c1 := h.few
  have c2 := h.cost
  have c3 := h.pll
  unfold flushed
  by_cases hp : pl = []
  · rw [if_pos hp]
    subst hp
    simp at c1 c2
    omega
  · rw [if_neg hp, bytes_snoc, List.length_append]
    have : 1 ≤ pl.length := by cases pl with
      | nil => exact absurd rfl hp
      | cons _ _ => simp
    simp [Tok.bytes]
    omega
theorem cost_snoc (toks : List Tok) (pl : List UInt8) (c : UInt8) : (bytes (flushed toks (pl ++ [c]))).length = (bytes (flushed toks pl)).length + if pl = [] then 2 else 1 := by
  rw [flushed_snoc, bytes_snoc, List.length_append]
  unfold flushed
  by_cases hp : pl = []
  · subst hp; simp [Tok.bytes]
  · rw [if_neg hp, if_neg hp, bytes_snoc, List.length_append]; simp [Tok.bytes]; omega
theorem cost_nil (toks : List Tok) : flushed toks [] = toks := if_pos rfl
/-- what R bytes more may cost -/
def More (R : Nat) (e : Bool) : Nat := if R = 0 then 0 else if R ≤ 2 then (if e then R + 1 else R) else 3 * (R / 130) + 3
theorem More_zero (e : Bool) : More 0 e = 0 := rfl
theorem More_le (R : Nat) (e : Bool) : More R e ≤ 3 * (R / 130) + 3 := by
  unfold More
  split
  · omega
  · split
    · split <;> omega
    · omega
theorem More_step (R n : Nat) (e : Bool) (h : 3 ≤ R) (hn : n = min 130 R) : 3 + More (R - n) true ≤ More R e := by
  rw [show More R e = 3 * (R / 130) + 3 by unfold More; rw [if_neg (by omega), if_neg (by omega)]]
  unfold More
  split
  · omega
  · split
    · simp only [if_true]; omega
    · omega
/-- behind the first p bytes each goes on as p ahead -/
def Period (l : List UInt8) (p : Nat) : Prop := ∀ i, i + p < l.length → l.getD i 0 = l.getD (i + p) 0
structure Cheap (l : List UInt8) (p a : Nat) (toks : List Tok) (pl : List UInt8) : Prop where
  cost : p ≤ a → (bytes (flushed toks pl)).length + More (l.length - a) (decide (pl = [])) ≤ p + (p + 3) / 4 + 3 * ((l.length - p) / 130 + 2)
  wait : p ≤ a → a = p ∨ pl = [] ∨ pl.length + (l.length - a) ≤ p + 2
theorem cheap_at {l : List UInt8} {p : Nat} {toks : List Tok} {pl : List UInt8} (h : At l p toks pl) : Cheap l p p toks pl := by
  refine ⟨fun _ => ?_, fun _ => .inl rfl⟩
  have h1 := h.cost2
  have h2 := More_le (l.length - p) (decide (pl = []))
  omega
theorem best_period {l : List UInt8} {p a b n : Nat} (hp : Period l p) (h1 : 1 ≤ p) (h2 : p ≤ 1023) (ha : p ≤ a) (h3 : a + 3 ≤ l.length) (hb : Best l a b n) : n = min 130 (l.length - a) := by
  have hs : Same l (a - p) a (min 130 (l.length - a)) := by
    refine ⟨by omega, fun i hi => ?_⟩
    have := hp (a - p + i) (by omega)
    rw [this]
    congr 1
    omega
  have h4 := hb.most (a - p) (by omega) (by omega) _ (by omega) (by omega) hs
  rcases hb.is with h5 | ⟨_, h5, _, _, _, h6⟩
  · omega
  · have := h6.1
    omega
theorem Reach.cheap {l : List UInt8} {p a : Nat} {toks : List Tok} {pl : List UInt8} (hp : Period l p) (h1 : 1 ≤ p) (h2 : p ≤ 100) (h : Reach l a toks pl) : Cheap l p a toks pl := by
  induction h with
  | start => exact ⟨fun h => by omega, fun h => by omega⟩
  | @wait a toks pl h hlt hb hn ih =>
    by_cases hap : a + 1 = p
    · subst hap
      exact cheap_at (Reach.wait h hlt hb hn).at
    · by_cases ha : p ≤ a
      · have hR : l.length - a ≤ 2 := by
          apply Nat.le_of_not_lt
          intro h3
          have := best_period hp h1 (by omega) ha (by omega) hb
          omega
        have hc := ih.cost ha
        refine ⟨fun _ => ?_, fun _ => ?_⟩
        · rw [cost_snoc, show decide (pl ++ [l.getD a 0] = []) = false by simp]
          unfold More at hc ⊢
          by_cases hpl : pl = []
          · rw [if_pos hpl]
            rw [decide_eq_true hpl, if_neg (by omega), if_pos hR, if_pos rfl] at hc
            split
            · omega
            · rw [if_pos (by omega)]; simp; omega
          · rw [if_neg hpl]
            rw [decide_eq_false hpl, if_neg (by omega), if_pos hR] at hc
            simp only [Bool.false_eq_true, if_false] at hc ⊢
            split
            · omega
            · rw [if_pos (by omega)]; omega
        · right; right
          rw [List.length_append, List.length_singleton]
          rcases ih.wait ha with h3 | h3 | h3
          · have := h.at.pll; omega
          · subst h3; simp; omega
          · omega
      · exact ⟨fun h => by omega, fun h => by omega⟩
  | @full a toks pl h hlt hb hn ih =>
    by_cases hap : a + 1 = p
    · have := h.at.pll; omega
    · by_cases ha : p ≤ a
      · exfalso
        have hR : l.length - a ≤ 2 := by
          apply Nat.le_of_not_lt
          intro h3
          have := best_period hp h1 (by omega) ha (by omega) hb
          omega
        rcases ih.wait ha with h3 | h3 | h3
        · have := h.at.pll; omega
        · subst h3; simp at hn
        · omega
      · exact ⟨fun h => by omega, fun h => by omega⟩
  | @back a toks pl h b n h3 hb ih =>
    have hle : a + n ≤ l.length := by
      rcases hb.is with h4 | h4
      · omega
      · exact h4.2.2.2.2.2.1
    refine ⟨fun hpa => ?_, fun _ => .inr (.inl rfl)⟩
    rw [cost_nil, bytes_snoc, List.length_append, show (Tok.back b n).bytes.length = 3 from rfl, show decide (([] : List UInt8) = []) = true from rfl]
    by_cases ha : p ≤ a
    · have hn := best_period hp h1 (by omega) ha (by omega) hb
      have hc := ih.cost ha
      have hm := More_step (l.length - a) n (decide (pl = [])) (by omega) hn
      rw [show l.length - (a + n) = l.length - a - n by omega]
      omega
    · have hc := h.at.cost2
      have hm := More_le (l.length - (a + n)) true
      have : (l.length - (a + n)) / 130 ≤ (l.length - p) / 130 := Nat.div_le_div_right (by omega)
      omega
/-- all of it -/
theorem runs_cost {l : List UInt8} {p : Nat} {toks : List Tok} {pl : List UInt8} (hp : Period l p) (h1 : 1 ≤ p) (h2 : p ≤ 100) (hpl : p ≤ l.length) (h : Reach l l.length toks pl) : (bytes (flushed toks pl)).length ≤ p + (p + 3) / 4 + 3 * ((l.length - p) / 130 + 2) := by
  have := (h.cheap hp h1 h2).cost hpl
  rw [Nat.sub_self, More_zero] at this
  omega
/-- a text so many times -/
theorem period_flat (s : List UInt8) (n : Nat) : Period ((List.replicate n s).flatten) s.length := by
  intro i hi
  have hlen : (List.replicate n s).flatten.length = n * s.length := by simp
  have key : ∀ (n i : Nat), i < n * s.length → (List.replicate n s).flatten.getD i 0 = s.getD (i % s.length) 0 := by
    intro n
    induction n with
    | zero => intro i hi; omega
    | succ n ih =>
      intro i hi
      rw [List.replicate_succ, List.flatten_cons]
      rcases Nat.lt_or_ge i s.length with h | h
      · rw [List.getD_eq_getElem?_getD, List.getElem?_append_left h, ← List.getD_eq_getElem?_getD, Nat.mod_eq_of_lt h]
      · rw [List.getD_eq_getElem?_getD, List.getElem?_append_right h, ← List.getD_eq_getElem?_getD]
        rw [ih (i - s.length) (by rw [Nat.succ_mul] at hi; omega), Nat.mod_eq_sub_mod h]
  rw [hlen] at hi
  rw [key n i (by omega), key n (i + s.length) hi, Nat.add_mod_right]
end Lz
end Go.Proofs.Ytnldobfafaajjaa
