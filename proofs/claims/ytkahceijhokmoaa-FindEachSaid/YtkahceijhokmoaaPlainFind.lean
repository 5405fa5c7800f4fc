/- Where a pattern stands, by its borders: the plain law, over lists of bytes. No program in sight. -/
import Derived.Test.YtkahceijhokmoaaCommon
namespace Go.Proofs.Ytkahceijhokmoaa
set_option linter.unusedVariables false
set_option linter.unusedSimpArgs false
namespace Kmp
/-- the first j bytes of the pattern are the end of what was read -/
def Suf (p S : List UInt8) (j : Nat) : Prop := j ≤ p.length ∧ p.take j <:+ S
theorem suf_zero (p S : List UInt8) : Suf p S 0 := ⟨Nat.zero_le _, by simp⟩
theorem suf_len {p S : List UInt8} {j : Nat} (h : Suf p S j) : j ≤ S.length := by
  have := h.2.length_le
  rw [List.length_take, Nat.min_eq_left h.1] at this
  exact this
instance (p S : List UInt8) (j : Nat) : Decidable (Suf p S j) := by unfold Suf; infer_instance
/-- the longest such beginning, of no more than n bytes -/
def lngF (p S : List UInt8) : Nat → Nat
  | 0 => 0
  | n + 1 => if Suf p S (n + 1) then n + 1 else lngF p S n
def lng (p S : List UInt8) : Nat := lngF p S p.length
theorem lngF_suf (p S : List UInt8) : ∀ n, Suf p S (lngF p S n)
  | 0 => suf_zero p S
  | n + 1 => by
    unfold lngF
    split
    · assumption
    · exact lngF_suf p S n
theorem lngF_max (p S : List UInt8) (j : Nat) (h : Suf p S j) : ∀ n, j ≤ n → j ≤ lngF p S n
  | 0, hn => hn
  | n + 1, hn => by
    unfold lngF
    split
    · exact hn
    · rename_i h1
      exact lngF_max p S j h n (by
        rcases Nat.lt_or_ge j (n + 1) with h2 | h2
        · omega
        · exfalso; exact h1 (by rwa [show n + 1 = j from by omega]))
theorem lng_suf (p S : List UInt8) : Suf p S (lng p S) := lngF_suf p S _
theorem lng_max {p S : List UInt8} {j : Nat} (h : Suf p S j) : j ≤ lng p S := lngF_max p S j h _ h.1
theorem lng_le (p S : List UInt8) : lng p S ≤ p.length := (lng_suf p S).1
theorem lng_len (p S : List UInt8) : lng p S ≤ S.length := suf_len (lng_suf p S)
theorem lng_eq {p S : List UInt8} {k : Nat} (h : Suf p S k) (hm : ∀ j, Suf p S j → j ≤ k) : lng p S = k :=
  Nat.le_antisymm (hm _ (lng_suf p S)) (lng_max h)
/-- the shorter of two is the end of the longer -/
theorem suf_of_suf {p S : List UInt8} {j k : Nat} (hk : Suf p S k) (hj : Suf p S j) (h : j ≤ k) : Suf p (p.take k) j :=
  ⟨hj.1, List.suffix_of_suffix_length_le hj.2 hk.2 (by rw [List.length_take, List.length_take, Nat.min_eq_left hj.1, Nat.min_eq_left hk.1]; exact h)⟩
theorem suf_trans {p S : List UInt8} {j k : Nat} (hk : Suf p S k) (hj : Suf p (p.take k) j) : Suf p S j := ⟨hj.1, hj.2.trans hk.2⟩
theorem suffix_tail {l S : List UInt8} (h : l <:+ S) (hl : l.length < S.length) : l <:+ S.drop 1 := by
  cases S with
  | nil => simp at hl
  | cons a S =>
    rcases List.suffix_cons_iff.1 h with h | h
    · subst h; simp at hl
    · simpa using h
/-- a proper end of a beginning -/
theorem suf_drop {p : List UInt8} {j k : Nat} (hk : k ≤ p.length) (h : j < k) : Suf p (p.take k) j ↔ Suf p ((p.take k).drop 1) j := by
  constructor
  · rintro ⟨h1, h2⟩
    exact ⟨h1, suffix_tail h2 (by rw [List.length_take, List.length_take]; omega)⟩
  · rintro ⟨h1, h2⟩
    exact ⟨h1, h2.trans (List.drop_suffix _ _)⟩
theorem suf_snoc {p S : List UInt8} {c : UInt8} {j : Nat} : Suf p (S ++ [c]) (j + 1) ↔ ∃ h : j < p.length, p[j] = c ∧ Suf p S j := by
  constructor
  · rintro ⟨h1, h2⟩
    rw [List.take_succ_eq_append_getElem (by omega)] at h2
    obtain ⟨t, ht⟩ := h2
    rw [← List.append_assoc] at ht
    have := List.append_inj' ht rfl
    refine ⟨by omega, by simpa using this.2, by omega, ⟨t, this.1⟩⟩
  · rintro ⟨h, h1, h2, t, ht⟩
    refine ⟨by omega, t, ?_⟩
    rw [List.take_succ_eq_append_getElem h, ← List.append_assoc, ht, h1]
/-- what a border's table holds at k (0: -1) -/
def brd (p : List UInt8) (k : Nat) : Int := if k = 0 then -1 else (lng p ((p.take k).drop 1) : Nat)
theorem brd_lt (p : List UInt8) (k : Nat) : brd p k < (k : Int) ∧ -1 ≤ brd p k := by
  unfold brd
  split
  · omega
  · have := lng_len p ((p.take k).drop 1)
    rw [List.length_drop, List.length_take] at this
    omega
theorem brd_zero (p : List UInt8) : brd p 0 = -1 := rfl
/-- on the way to the next byte: k is an end, or -1; and whatever goes on is no longer -/
def Going (p S : List UInt8) (c : UInt8) (k : Int) : Prop :=
  (k = -1 ∨ ∃ n : Nat, k = (n : Int) ∧ Suf p S n) ∧ ∀ j, Suf p S j → ∀ h : j < p.length, p[j] = c → (j : Int) ≤ k
theorem going_start (p S : List UInt8) (c : UInt8) : Going p S c (lng p S : Nat) :=
  ⟨.inr ⟨_, rfl, lng_suf p S⟩, fun j hj _ _ => by have := lng_max hj; omega⟩
theorem going_first (p : List UInt8) (S : List UInt8) (c : UInt8) (h : ∀ j, ¬ Suf p S j ∨ p.length = 0) : Going p S c (-1) :=
  ⟨.inl rfl, fun j hj hl _ => by rcases h j with h | h; exact absurd hj h; omega⟩
theorem going_next {p S : List UInt8} {c : UInt8} {n : Nat} (h : Going p S c (n : Nat)) (hne : ∀ h : n < p.length, p[n] ≠ c) : Going p S c (brd p n) := by
  obtain ⟨h1, h2⟩ := h
  have hn : Suf p S n := by
    rcases h1 with h1 | ⟨m, h1, hm⟩
    · omega
    · have : n = m := by omega
      subst this; exact hm
  have key : ∀ j, Suf p S j → ∀ h : j < p.length, p[j] = c → j < n := by
    intro j hj hl hc
    have := h2 j hj hl hc
    rcases Nat.lt_or_ge j n with h | h
    · exact h
    · have : j = n := by omega
      subst this; exact absurd hc (hne hl)
  unfold brd
  split
  · rename_i h0
    refine ⟨.inl rfl, fun j hj hl hc => ?_⟩
    have := key j hj hl hc; omega
  · rename_i h0
    have hs := lng_suf p ((p.take n).drop 1)
    have hlt : lng p ((p.take n).drop 1) < n := by
      have := lng_len p ((p.take n).drop 1)
      rw [List.length_drop, List.length_take] at this; omega
    refine ⟨.inr ⟨_, rfl, suf_trans hn ((suf_drop hn.1 hlt).2 hs)⟩, fun j hj hl hc => ?_⟩
    have hjn := key j hj hl hc
    have := lng_max ((suf_drop hn.1 hjn).1 (suf_of_suf hn hj (by omega)))
    omega
theorem going_none {p S : List UInt8} {c : UInt8} (h : Going p S c (-1)) : lng p (S ++ [c]) = 0 := by
  refine lng_eq (suf_zero _ _) fun j hj => ?_
  cases j with
  | zero => exact Nat.le_refl _
  | succ j =>
    obtain ⟨hl, hc, hs⟩ := suf_snoc.1 hj
    have := h.2 j hs hl hc; omega
theorem going_yes {p S : List UInt8} {c : UInt8} {n : Nat} (h : Going p S c (n : Nat)) (hl : n < p.length) (hc : p[n] = c) : lng p (S ++ [c]) = n + 1 := by
  have hn : Suf p S n := by
    rcases h.1 with h1 | ⟨m, h1, hm⟩
    · omega
    · have : n = m := by omega
      subst this; exact hm
  refine lng_eq (suf_snoc.2 ⟨hl, hc, hn⟩) fun j hj => ?_
  cases j with
  | zero => exact Nat.zero_le _
  | succ j =>
    obtain ⟨hl, hc, hs⟩ := suf_snoc.1 hj
    have := h.2 j hs hl hc; omega
theorem going_bd {p S : List UInt8} {c : UInt8} {k : Int} (h : Going p S c k) : -1 ≤ k ∧ k ≤ (p.length : Int) ∧ k ≤ (S.length : Int) := by
  rcases h.1 with h | ⟨n, h, hs⟩
  · omega
  · have := hs.1; have := suf_len hs; omega
/-- the text whose ends a border's table is made of: one byte on -/
theorem brd_text (p : List UInt8) (i : Nat) (hi : i < p.length) (h0 : 1 ≤ i) : (p.take (i + 1)).drop 1 = (p.take i).drop 1 ++ [p[i]] := by
  rw [List.take_succ_eq_append_getElem hi, List.drop_append_of_le_length (by rw [List.length_take]; omega)]
theorem brd_one (p : List UInt8) : brd p 1 = 0 := by
  have : lng p ((p.take 1).drop 1) ≤ ((p.take 1).drop 1).length := lng_len _ _
  have h2 : ((p.take 1).drop 1).length = 0 := by rw [List.length_drop, List.length_take]; omega
  have h3 : lng p ((p.take 1).drop 1) = 0 := by omega
  unfold brd
  rw [if_neg (by omega), h3]
  rfl
/-- where the pattern stands: each place at which it ends -/
def ends (s p : List UInt8) (n : Nat) : List Nat := (List.range n).filter fun i => decide (p <:+ s.take (i + 1))
def occ (s p : List UInt8) (n : Nat) : List Nat := (ends s p n).map fun i => i + 1 - p.length
theorem lng_full (s p : List UInt8) (i : Nat) : lng p (s.take (i + 1)) = p.length ↔ p <:+ s.take (i + 1) := by
  constructor
  · intro h
    have := (lng_suf p (s.take (i + 1))).2
    rwa [h, List.take_length] at this
  · intro h
    exact lng_eq ⟨Nat.le_refl _, by rwa [List.take_length]⟩ fun j hj => hj.1
theorem occ_yes (s p : List UInt8) (i : Nat) (h : lng p (s.take (i + 1)) = p.length) : occ s p (i + 1) = occ s p i ++ [i + 1 - p.length] := by
  have := (lng_full s p i).1 h
  simp [occ, ends, List.range_succ, List.filter_append, this]
theorem occ_no (s p : List UInt8) (i : Nat) (h : lng p (s.take (i + 1)) ≠ p.length) : occ s p (i + 1) = occ s p i := by
  have : ¬ p <:+ s.take (i + 1) := fun hh => h ((lng_full s p i).2 hh)
  simp [occ, ends, List.range_succ, List.filter_append, this]
theorem occ_length (s p : List UInt8) (n : Nat) : (occ s p n).length ≤ n := by
  simp only [occ, ends, List.length_map]
  exact Nat.le_trans (List.length_filter_le _ _) (by simp)
/-- the pattern stands at j -/
def At (s p : List UInt8) (j : Nat) : Prop := p <+: s.drop j
theorem at_iff (s p : List UInt8) (j : Nat) : At s p j ↔ j + p.length ≤ s.length ∧ p <:+ s.take (j + p.length) ∨ (p = [] ∧ s.length < j) := by
  unfold At
  constructor
  · intro h
    rcases Nat.lt_or_ge s.length j with hj | hj
    · right
      rw [List.drop_eq_nil_of_le (by omega)] at h
      exact ⟨List.prefix_nil.1 h, hj⟩
    · left
      have hl := h.length_le
      rw [List.length_drop] at hl
      refine ⟨by omega, ?_⟩
      have e : (s.drop j).take p.length = p := (List.prefix_iff_eq_take.1 h).symm
      rw [List.take_add, e]
      exact List.suffix_append _ _
  · rintro (⟨h1, h2⟩ | ⟨rfl, _⟩)
    · rw [List.prefix_iff_eq_take]
      rw [List.take_add] at h2
      obtain ⟨t, ht⟩ := h2
      have := List.append_inj' ht (by rw [List.length_take, List.length_drop]; omega)
      exact this.2
    · exact List.nil_prefix
theorem mem_occ (s p : List UInt8) (hp : 1 ≤ p.length) (j : Nat) : j ∈ occ s p s.length ↔ j + p.length ≤ s.length ∧ p <:+ s.take (j + p.length) := by
  simp only [occ, ends, List.mem_map, List.mem_filter, List.mem_range, decide_eq_true_eq]
  constructor
  · rintro ⟨i, ⟨hi, hs⟩, rfl⟩
    have := hs.length_le
    rw [List.length_take] at this
    have e : i + 1 - p.length + p.length = i + 1 := by omega
    rw [e]
    exact ⟨by omega, hs⟩
  · rintro ⟨h1, h2⟩
    exact ⟨j + p.length - 1, ⟨by omega, by rwa [show j + p.length - 1 + 1 = j + p.length from by omega]⟩, by omega⟩
theorem mem_occ_at (s p : List UInt8) (hp : 1 ≤ p.length) (j : Nat) : j ∈ occ s p s.length ↔ At s p j := by
  rw [mem_occ s p hp, at_iff]
  constructor
  · exact .inl
  · rintro (h | ⟨rfl, _⟩)
    · exact h
    · simp at hp
theorem occ_sorted (s p : List UInt8) (n : Nat) : (occ s p n).Pairwise (· < ·) := by
  unfold occ ends
  rw [List.pairwise_map]
  have h := (List.pairwise_lt_range (n := n)).filter fun i => decide (p <:+ s.take (i + 1))
  refine List.Pairwise.imp_of_mem (R := (· < ·)) ?_ h
  intro a b ha hb hab
  have h1 := (List.mem_filter.1 ha).2
  have h2 := (List.mem_filter.1 hb).2
  simp only [decide_eq_true_eq] at h1 h2
  have h1 := h1.length_le
  have h2 := h2.length_le
  rw [List.length_take] at h1 h2
  omega
/-- two rising lists with the same members are one -/
theorem sorted_ext : ∀ {a b : List Nat}, a.Pairwise (· < ·) → b.Pairwise (· < ·) → (∀ x, x ∈ a ↔ x ∈ b) → a = b
  | [], [], _, _, _ => rfl
  | [], y :: b, _, _, h => by have := (h y).2 (by simp); simp at this
  | x :: a, [], _, _, h => by have := (h x).1 (by simp); simp at this
  | x :: a, y :: b, ha, hb, h => by
    rw [List.pairwise_cons] at ha hb
    have hxy : x = y := by
      have h1 := (h x).1 (by simp)
      have h2 := (h y).2 (by simp)
      simp only [List.mem_cons] at h1 h2
      rcases h1 with h1 | h1
      · exact h1
      · rcases h2 with h2 | h2
        · exact h2.symm
        · have := ha.1 y h2; have := hb.1 x h1; omega
    subst hxy
    congr 1
    refine sorted_ext ha.2 hb.2 fun z => ?_
    have := h z
    simp only [List.mem_cons] at this
    constructor
    · intro hz
      rcases this.1 (.inr hz) with h1 | h1
      · subst h1; have := ha.1 z hz; omega
      · exact h1
    · intro hz
      rcases this.2 (.inr hz) with h1 | h1
      · subst h1; have := hb.1 z hz; omega
      · exact h1
theorem at_reverse (s p : List UInt8) (j : Nat) (h : j + p.length ≤ s.length) (ha : At s p j) : At s.reverse p.reverse (s.length - p.length - j) := by
  unfold At at *
  obtain ⟨t, ht⟩ := ha
  have hs : s = s.take j ++ (p ++ t) := by rw [ht, List.take_append_drop]
  have hr : s.reverse = t.reverse ++ (p.reverse ++ (s.take j).reverse) := by
    conv => lhs; rw [hs]
    simp
  have hl : t.reverse.length = s.length - p.length - j := by
    have := congrArg List.length ht
    rw [List.length_append, List.length_drop] at this
    rw [List.length_reverse]; omega
  rw [hr, ← hl, List.drop_left]
  exact List.prefix_append _ _
/-- in the mirror -/
theorem occ_mirror (s p : List UInt8) (hp : 1 ≤ p.length) :
    ((occ s.reverse p.reverse s.length).map fun j => s.length - p.length - j).reverse = occ s p s.length := by
  have hb : ∀ j, j ∈ occ s.reverse p.reverse s.length ↔ At s.reverse p.reverse j := fun j => by
    have := mem_occ_at s.reverse p.reverse (by simpa using hp) j
    rwa [List.length_reverse] at this
  have hle : ∀ {s p : List UInt8}, 1 ≤ p.length → ∀ {j}, At s p j → j + p.length ≤ s.length := by
    intro s p hp j h
    rcases (at_iff s p j).1 h with h | ⟨rfl, _⟩
    · exact h.1
    · simp at hp
  refine sorted_ext ?_ (occ_sorted _ _ _) fun x => ?_
  · rw [List.pairwise_reverse, List.pairwise_map]
    refine List.Pairwise.imp_of_mem (R := (· < ·)) ?_ (occ_sorted s.reverse p.reverse s.length)
    intro a b ha hb' hab
    have h1 := hle (by simpa using hp) ((hb a).1 ha)
    have h2 := hle (by simpa using hp) ((hb b).1 hb')
    simp at h1 h2
    omega
  · rw [List.mem_reverse, List.mem_map, mem_occ_at s p hp]
    constructor
    · rintro ⟨j, hj, rfl⟩
      have h1 := (hb j).1 hj
      have h2 := hle (by simpa using hp) h1
      have := at_reverse s.reverse p.reverse j h2 h1
      simpa using this
    · intro h
      have h2 := hle hp h
      refine ⟨s.length - p.length - x, (hb _).2 (at_reverse s p x h2 h), by omega⟩
end Kmp
end Go.Proofs.Ytkahceijhokmoaa
