/- Package lz, plain: the longest text that stood already. No program in sight. -/
import Derived.Test.YtnldobfafaajjaaPlainLz
namespace Go.Proofs.Ytnldobfafaajjaa
set_option linter.unusedVariables false
set_option linter.unusedSimpArgs false
namespace Lz
theorem Same.mono {l : List UInt8} {j a n m : Nat} (h : Same l j a n) (hm : m ≤ n) : Same l j a m := ⟨by have := h.1; omega, fun i hi => h.2 i (by omega)⟩
theorem Same.step {l : List UInt8} {j a n : Nat} (h : Same l j a n) (hlt : a + n < l.length) (he : l.getD (j + n) 0 = l.getD (a + n) 0) : Same l j a (n + 1) :=
  ⟨by omega, fun i hi => by
    rcases Nat.lt_or_ge i n with h1 | h1
    · exact h.2 i h1
    · obtain rfl : i = n := by omega
      exact he⟩
/-- three bytes -/
def key3 (l : List UInt8) (j : Nat) : List UInt8 := (l.drop j).take 3
theorem key3_len (l : List UInt8) (j : Nat) (h : j + 3 ≤ l.length) : (key3 l j).length = 3 := by
  unfold key3; rw [List.length_take, List.length_drop]; omega
theorem key3_same (l : List UInt8) (j a : Nat) (hj : j + 3 ≤ l.length) (ha : a + 3 ≤ l.length) : key3 l j = key3 l a ↔ Same l j a 3 := by
  constructor
  · intro h
    refine ⟨ha, fun i hi => ?_⟩
    have := congrArg (fun x => x.getD i 0) h
    simpa [key3, List.getD_eq_getElem?_getD, List.getElem?_take, hi, List.getElem?_drop] using this
  · intro h
    apply List.ext_getElem
    · rw [key3_len l j hj, key3_len l a ha]
    · intro i h1 h2
      rw [key3_len l j hj] at h1
      have := h.2 i h1
      rw [List.getD_eq_getElem?_getD, List.getD_eq_getElem?_getD, List.getElem?_eq_getElem (by omega), List.getElem?_eq_getElem (by omega)] at this
      simpa [key3] using this
/-- where a key stood, ahead of p -/
def places (l : List UInt8) (p : Nat) (key : List UInt8) : List Nat := (List.range p).filter fun j => decide (j + 3 ≤ l.length) && (key3 l j == key)
theorem places_zero (l key : List UInt8) : places l 0 key = [] := rfl
theorem places_here (l : List UInt8) (p : Nat) (h : p + 3 ≤ l.length) : places l (p + 1) (key3 l p) = places l p (key3 l p) ++ [p] := by
  unfold places
  rw [List.range_succ, List.filter_append]
  simp [h]
theorem places_other (l : List UInt8) (p : Nat) (key : List UInt8) (h : p + 3 ≤ l.length → key ≠ key3 l p) : places l (p + 1) key = places l p key := by
  unfold places
  rw [List.range_succ, List.filter_append]
  have : ([p].filter fun j => decide (j + 3 ≤ l.length) && (key3 l j == key)) = [] := by
    rw [List.filter_cons, List.filter_nil]
    by_cases h1 : p + 3 ≤ l.length
    · have := h h1
      have hb : (key3 l p == key) = false := by rw [beq_eq_false_iff_ne]; exact fun e => this e.symm
      simp [hb]
    · simp [h1]
  rw [this, List.append_nil]
theorem places_len (l : List UInt8) (p : Nat) (key : List UInt8) : (places l p key).length ≤ p := by
  unfold places
  exact Nat.le_trans (List.length_filter_le _ _) (by rw [List.length_range]; exact Nat.le_refl _)
theorem places_mem (l : List UInt8) (p : Nat) (key : List UInt8) (j : Nat) : j ∈ places l p key ↔ j < p ∧ j + 3 ≤ l.length ∧ key3 l j = key := by
  unfold places
  simp [List.mem_filter]
theorem places_asc (l : List UInt8) (p : Nat) (key : List UInt8) : (places l p key).Pairwise (· < ·) := List.Pairwise.filter _ List.pairwise_lt_range
theorem places_get (l : List UInt8) (a i : Nat) (ha : a + 3 ≤ l.length) (hi : i < (places l a (key3 l a)).length) : (places l a (key3 l a)).getD i 0 < a ∧ Same l ((places l a (key3 l a)).getD i 0) a 3 := by
  have hm : (places l a (key3 l a)).getD i 0 ∈ places l a (key3 l a) := by
    rw [List.getD_eq_getElem?_getD, List.getElem?_eq_getElem hi]; exact List.getElem_mem _
  obtain ⟨h1, h2, h3⟩ := (places_mem _ _ _ _).1 hm
  exact ⟨h1, (key3_same l _ a h2 ha).1 h3⟩
/-- of what is known behind k of the places: the longest -/
structure Seek (l : List UInt8) (a : Nat) (J : List Nat) (k back n : Nat) : Prop where
  is : (n = 0 ∧ back = 0) ∨ (3 ≤ n ∧ n ≤ 130 ∧ 1 ≤ back ∧ back ≤ 1023 ∧ back ≤ a ∧ Same l (a - back) a n)
  most : ∀ i, k ≤ i → i < J.length → ∀ m, 3 ≤ m → m ≤ 130 → Same l (J.getD i 0) a m → m ≤ n
theorem Seek.start (l : List UInt8) (a : Nat) (J : List Nat) : Seek l a J J.length 0 0 := ⟨.inl ⟨rfl, rfl⟩, fun i h1 h2 => by omega⟩
/-- as long as it goes on -/
def Run (l : List UInt8) (j a m : Nat) : Prop := 3 ≤ m ∧ m ≤ 130 ∧ Same l j a m ∧ (m = 130 ∨ a + m = l.length ∨ l.getD (j + m) 0 ≠ l.getD (a + m) 0)
theorem Run.most {l : List UInt8} {j a m : Nat} (h : Run l j a m) (n : Nat) (hn : n ≤ 130) (hs : Same l j a n) : n ≤ m := by
  obtain ⟨h1, h2, h3, h4⟩ := h
  apply Nat.le_of_not_lt
  intro hlt
  rcases h4 with h4 | h4 | h4
  · omega
  · have := hs.1; omega
  · exact h4 (hs.2 m hlt)
theorem Seek.next {l : List UInt8} {a : Nat} {J : List Nat} {k back n : Nat} (h : Seek l a J (k + 1) back n) (hk : k < J.length) (m : Nat) (hj : J.getD k 0 < a) (hw : a - J.getD k 0 ≤ 1023) (hr : Run l (J.getD k 0) a m) :
    Seek l a J k (if n < m then a - J.getD k 0 else back) (if n < m then m else n) := by
  constructor
  · by_cases hlt : n < m
    · rw [if_pos hlt, if_pos hlt]
      refine .inr ⟨hr.1, hr.2.1, by omega, hw, by omega, ?_⟩
      rw [show a - (a - J.getD k 0) = J.getD k 0 by omega]
      exact hr.2.2.1
    · rw [if_neg hlt, if_neg hlt]
      exact h.is
  · intro i hi hiJ x hx1 hx2 hs
    rcases Nat.lt_or_ge k i with h1 | h1
    · have := h.most i (by omega) hiJ x hx1 hx2 hs
      split <;> omega
    · obtain rfl : i = k := by omega
      have := hr.most x hx2 hs
      split <;> omega
/-- the longest text at a that stood already -/
structure Best (l : List UInt8) (a back n : Nat) : Prop where
  is : (n = 0 ∧ back = 0) ∨ (3 ≤ n ∧ n ≤ 130 ∧ 1 ≤ back ∧ back ≤ 1023 ∧ back ≤ a ∧ Same l (a - back) a n)
  most : ∀ j, j < a → a - j ≤ 1023 → ∀ m, 3 ≤ m → m ≤ 130 → Same l j a m → m ≤ n
theorem Best.none (l : List UInt8) (a : Nat) (h : l.length < a + 3) : Best l a 0 0 := ⟨.inl ⟨rfl, rfl⟩, fun j _ _ m hm _ hs => by have := hs.1; omega⟩
theorem Seek.done {l : List UInt8} {a : Nat} {k back n : Nat} (ha : a + 3 ≤ l.length) (h : Seek l a (places l a (key3 l a)) k back n)
    (hend : k = 0 ∨ (k ≤ (places l a (key3 l a)).length ∧ 1023 < a - (places l a (key3 l a)).getD (k - 1) 0)) : Best l a back n := by
  refine ⟨h.is, fun j hj hw m hm1 hm2 hs => ?_⟩
  have h3 : Same l j a 3 := hs.mono hm1
  have hmem : j ∈ places l a (key3 l a) := (places_mem _ _ _ _).2 ⟨hj, by omega, (key3_same l j a (by omega) ha).2 h3⟩
  obtain ⟨i, hi, hij⟩ := List.getElem_of_mem hmem
  have hgd : (places l a (key3 l a)).getD i 0 = j := by rw [List.getD_eq_getElem?_getD, List.getElem?_eq_getElem hi]; exact hij
  refine h.most i ?_ hi m hm1 hm2 (by rw [hgd]; exact hs)
  apply Nat.le_of_not_lt
  intro hik
  rcases hend with h0 | ⟨h1, h2⟩
  · omega
  · have hk1 : k - 1 < (places l a (key3 l a)).length := by omega
    have hle : (places l a (key3 l a)).getD i 0 ≤ (places l a (key3 l a)).getD (k - 1) 0 := by
      rcases Nat.lt_or_ge i (k - 1) with h3 | h3
      · have := List.pairwise_iff_getElem.1 (places_asc l a (key3 l a)) i (k - 1) hi hk1 h3
        rw [List.getD_eq_getElem?_getD, List.getD_eq_getElem?_getD, List.getElem?_eq_getElem hi, List.getElem?_eq_getElem hk1]
        simp only [Option.getD_some]
        omega
      · obtain rfl : i = k - 1 := by omega
        exact Nat.le_refl _
    rw [hgd] at hle
    omega
/-- the way that Pack goes -/
inductive Reach (l : List UInt8) : Nat → List Tok → List UInt8 → Prop where
  | start : Reach l 0 [] []
  | wait {a : Nat} {toks : List Tok} {pl : List UInt8} (h : Reach l a toks pl) (hlt : a < l.length) (hb : Best l a 0 0) (hn : pl.length + 1 ≠ 128) : Reach l (a + 1) toks (pl ++ [l.getD a 0])
  | full {a : Nat} {toks : List Tok} {pl : List UInt8} (h : Reach l a toks pl) (hlt : a < l.length) (hb : Best l a 0 0) (hn : pl.length + 1 = 128) : Reach l (a + 1) (flushed toks (pl ++ [l.getD a 0])) []
  | back {a : Nat} {toks : List Tok} {pl : List UInt8} (h : Reach l a toks pl) (b n : Nat) (h3 : 3 ≤ n) (hb : Best l a b n) : Reach l (a + n) (flushed toks pl ++ [.back b n]) []
theorem flushed_snoc (toks : List Tok) (pl : List UInt8) (c : UInt8) : flushed toks (pl ++ [c]) = toks ++ [.plain (pl ++ [c])] := by
  unfold flushed; rw [if_neg (by simp)]
theorem Reach.at {l : List UInt8} {a : Nat} {toks : List Tok} {pl : List UInt8} (h : Reach l a toks pl) : At l a toks pl := by
  induction h with
  | start => exact At.start l
  | wait h hlt hb hn ih =>
    have := ih.byte hlt
    rw [if_neg hn] at this
    exact this
  | full h hlt hb hn ih =>
    have := ih.byte hlt
    rw [if_pos hn] at this
    rw [flushed_snoc]
    exact this
  | back h b n h3 hb ih =>
    rcases hb.is with h1 | ⟨h1, h2, h4, h5, h6, h7⟩
    · omega
    · exact ih.back b n h1 h2 h4 h5 h6 h7
end Lz
end Go.Proofs.Ytnldobfafaajjaa
