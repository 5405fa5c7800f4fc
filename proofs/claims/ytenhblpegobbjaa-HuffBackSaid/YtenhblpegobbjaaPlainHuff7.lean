/- What is written by signs is read again. Plain. -/
import Derived.Test.YtenhblpegobbjaaPlainHuff6
namespace Go.Proofs.Ytenhblpegobbjaa
set_option linter.unusedVariables false
set_option linter.unusedSimpArgs false
namespace Huff
/-- the thing whose sign has k bits and is v -/
def findSym (L : List Int) (k v : Nat) : Option Nat := (List.range L.length).find? fun i => decide (L.getD i 0 = (k : Int)) && decide (code L i = v)
theorem findSym_some (L : List Int) (b : Nat) (hb : b < L.length) (h0 : 0 < L.getD b 0) (k v : Nat) (hk : L.getD b 0 = (k : Int)) (hv : code L b = v) : findSym L k v = some b := by
  unfold findSym
  cases hf : (List.range L.length).find? fun i => decide (L.getD i 0 = (k : Int)) && decide (code L i = v) with
  | none =>
    rw [List.find?_eq_none] at hf
    have h1 := hf b (List.mem_range.2 hb)
    rw [decide_eq_true hk, decide_eq_true hv] at h1
    exact absurd rfl h1
  | some i =>
    have hp := List.find?_some hf
    have hm := List.mem_range.1 (List.mem_of_find?_eq_some hf)
    simp only [Bool.and_eq_true, decide_eq_true_eq] at hp
    by_cases hib : i = b
    · rw [hib]
    · exfalso
      have hap := apart L i b hm hb hib (by rw [hp.1, ← hk]; exact h0) (by rw [hp.1, hk]; exact Int.le_refl _)
      rw [hp.1, hk, Int.sub_self] at hap
      simp only [Int.toNat_zero, Nat.pow_zero, Nat.div_one] at hap
      exact hap (by rw [hv, hp.2])
theorem findSym_none (L : List Int) (b : Nat) (hb : b < L.length) (k : Nat) (hk : 0 < k) (hlt : (k : Int) < L.getD b 0) : findSym L k (code L b / 2 ^ ((L.getD b 0).toNat - k)) = none := by
  unfold findSym
  rw [List.find?_eq_none]
  intro i hi
  have hm := List.mem_range.1 hi
  simp only [Bool.and_eq_true, decide_eq_true_eq, not_and]
  intro h1 h2
  have hib : i ≠ b := by rintro rfl; omega
  have hap := apart L i b hm hb hib (by rw [h1]; omega) (by rw [h1]; omega)
  rw [h1] at hap
  have e : (L.getD b 0 - (k : Int)).toNat = (L.getD b 0).toNat - k := by omega
  rw [e] at hap
  exact hap h2.symm
/-- one sign more, bit by bit: the thing, and where it ends -/
def dgo (L : List Int) (p : List Nat) : Nat → Nat → Nat → Nat → Option (Nat × Nat)
  | 0, _, _, _ => none
  | f + 1, k, v, at_ => if at_ < 8 * p.length then (match findSym L k (2 * v + bitAt p at_) with | some c => some (c, at_ + 1) | none => dgo L p f (k + 1) (2 * v + bitAt p at_) (at_ + 1)) else none
def decode (L : List Int) (p : List Nat) : Nat → Nat → Option (List Nat)
  | 0, _ => some []
  | n + 1, at_ => match dgo L p 24 1 0 at_ with | none => none | some (c, at2) => (decode L p n at2).map (c :: ·)
theorem half (c m : Nat) : 2 * (c / 2 ^ (m + 1)) + c / 2 ^ m % 2 = c / 2 ^ m := by
  rw [Nat.pow_succ, ← Nat.div_div_eq_div_mul]; omega
theorem dgo_ok (L : List Int) (p : List Nat) (hs : wsum L ≤ 2 ^ 24) (b : Nat) (hb : b < L.length) (h0 : 0 < L.getD b 0) (h24 : L.getD b 0 ≤ 24) (at_ : Nat) (hN : at_ + (L.getD b 0).toNat ≤ 8 * p.length)
    (hbits : ∀ j, j < (L.getD b 0).toNat → bitAt p (at_ + j) = code L b / 2 ^ ((L.getD b 0).toNat - 1 - j) % 2) : dgo L p 24 1 0 at_ = some (b, at_ + (L.getD b 0).toNat) := by
  have hcb := code_bound L hs b hb h0 h24
  obtain ⟨n, hn⟩ : ∃ n : Nat, n = (L.getD b 0).toNat := ⟨_, rfl⟩
  have hnz : L.getD b 0 = (n : Int) := by omega
  rw [← hn] at hN hbits hcb ⊢
  have key : ∀ d j, j + d + 1 = n → ∀ f, f + j = 24 → dgo L p f (j + 1) (code L b / 2 ^ (n - j)) (at_ + j) = some (b, at_ + n) := by
    intro d
    induction d with
    | zero =>
      intro j hj f hf
      obtain ⟨f', rfl⟩ : ∃ f', f = f' + 1 := ⟨f - 1, by omega⟩
      unfold dgo
      rw [if_pos (by omega), hbits j (by omega)]
      have e1 : n - j = (n - 1 - j) + 1 := by omega
      rw [e1, half]
      have e2 : n - 1 - j = 0 := by omega
      rw [e2, Nat.pow_zero, Nat.div_one, findSym_some L b hb h0 (j + 1) _ (by omega) rfl]
      simp only [Option.some.injEq, Prod.mk.injEq, true_and]
      omega
    | succ d ih =>
      intro j hj f hf
      obtain ⟨f', rfl⟩ : ∃ f', f = f' + 1 := ⟨f - 1, by omega⟩
      unfold dgo
      rw [if_pos (by omega), hbits j (by omega)]
      have e1 : n - j = (n - 1 - j) + 1 := by omega
      rw [e1, half]
      have e2 := findSym_none L b hb (j + 1) (by omega) (by omega)
      rw [← hn, show n - (j + 1) = n - 1 - j by omega] at e2
      rw [e2]
      have h3 := ih (j + 1) (by omega) f' (by omega)
      rw [show n - (j + 1) = n - 1 - j by omega] at h3
      exact h3
  have h := key (n - 1) 0 (by omega) 24 (by omega)
  rw [Nat.sub_zero, Nat.div_eq_of_lt hcb] at h
  exact h
/-- all bits of a text -/
def bitsS (L : List Int) (s : List Nat) : List Bool := s.flatMap fun b => bitsOf (L.getD b 0).toNat (code L b)
theorem bitsS_append (L : List Int) (s t : List Nat) : bitsS L (s ++ t) = bitsS L s ++ bitsS L t := by simp [bitsS]
theorem bitsS_cons (L : List Int) (b : Nat) (t : List Nat) : bitsS L (b :: t) = bitsOf (L.getD b 0).toNat (code L b) ++ bitsS L t := by simp [bitsS]
theorem getD_mid (A B C : List Bool) (j : Nat) (h : j < B.length) : (A ++ (B ++ C)).getD (A.length + j) false = B.getD j false := by
  rw [List.getD_eq_getElem?_getD, List.getD_eq_getElem?_getD, List.getElem?_append_right (by omega), List.getElem?_append_left (by omega), Nat.add_sub_cancel_left]
theorem decode_ok (L : List Int) (hd : List Nat) (hs : wsum L ≤ 2 ^ 24) (hle : ∀ x ∈ L, x ≤ 24) : ∀ (s pre : List Nat), (∀ b ∈ s, b < L.length ∧ 0 < L.getD b 0) →
    decode L (hd ++ packBits (bitsS L (pre ++ s))) s.length (8 * hd.length + (bitsS L pre).length) = some s := by
  intro s
  induction s with
  | nil => intro pre _; rfl
  | cons b s ih =>
    intro pre h
    obtain ⟨hb, h0⟩ := h b List.mem_cons_self
    have h24 : L.getD b 0 ≤ 24 := hle _ (by rw [List.getD_eq_getElem?_getD, List.getElem?_eq_getElem hb]; exact List.getElem_mem hb)
    have hlen : (bitsS L (pre ++ b :: s)).length = (bitsS L pre).length + ((L.getD b 0).toNat + (bitsS L s).length) := by
      rw [bitsS_append, bitsS_cons, List.length_append, List.length_append, bitsOf_length]
    have hd1 := dgo_ok L (hd ++ packBits (bitsS L (pre ++ b :: s))) hs b hb h0 h24 (8 * hd.length + (bitsS L pre).length)
      (by rw [List.length_append, packBits_length, hlen]; omega)
      (fun j hj => by
        rw [Nat.add_assoc, bitAt_behind, bitAt_pack _ _ (by rw [hlen]; omega)]
        rw [← bitsOf_get _ _ j hj]
        congr 1
        rw [bitsS_append, bitsS_cons]
        exact getD_mid _ _ _ j (by rw [bitsOf_length]; exact hj))
    have ih2 := ih (pre ++ [b]) (fun x hx => h x (List.mem_cons_of_mem _ hx))
    rw [List.append_assoc, List.singleton_append] at ih2
    have e : (bitsS L (pre ++ [b])).length = (bitsS L pre).length + (L.getD b 0).toNat := by
      rw [bitsS_append, bitsS_cons, List.length_append, List.length_append, bitsOf_length]; simp [bitsS]
    rw [e, ← Nat.add_assoc] at ih2
    show decode L _ (s.length + 1) _ = _
    unfold decode
    rw [hd1]
    simp only
    rw [ih2]
    rfl
end Huff
end Go.Proofs.Ytenhblpegobbjaa
