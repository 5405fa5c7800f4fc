/- Unpack, as a function; what Pack writes is what it reads. -/
import Derived.Test.YtenhblpegobbjaaHuffH
import Derived.Test.YtenhblpegobbjaaPlainHuff9
namespace Go.Proofs.Ytenhblpegobbjaa
set_option linter.unusedVariables false
set_option linter.unusedSimpArgs false
namespace Huff
/-- what Pack writes -/
def packed (s : List UInt8) : List Nat := head s (lens (counts s)) ++ packBits (bitsS (ofInts (lens (counts s))) (s.map (·.toNat)))
/-- how many bytes are told -/
def readN (q : List Nat) : Nat := q.getD 256 0 * 65536 + q.getD 257 0 * 256 + q.getD 258 0
open Classical in
/-- what Unpack reads -/
noncomputable def unpackP (p : List UInt8) : Option (List UInt8) :=
  if p.length < 259 then none else
  if ¬ Fits (ofInts ((p.map (·.toNat)).take 256)) ∨ 4000 < readN (p.map (·.toNat)) then none else
  match decode (ofInts ((p.map (·.toNat)).take 256)) (p.map (·.toNat)) (readN (p.map (·.toNat))) 2072 with
  | none => none
  | some s => if packed (s.map UInt8.ofNat) = p.map (·.toNat) then some (s.map UInt8.ofNat) else none
theorem lens_lt (s : List UInt8) : ∀ x ∈ lens (counts s), x < 256 := by
  intro x hx
  obtain ⟨i, hi, rfl⟩ := List.getElem_of_mem hx
  have h := lens_le (counts s) (by rw [counts_length]; exact Nat.le_refl _) i
  rw [List.getD_eq_getElem?_getD, List.getElem?_eq_getElem hi] at h
  simp only [Option.getD_some] at h
  omega
theorem packed_lt (s : List UInt8) : ∀ x ∈ packed s, x < 256 := by
  intro x hx
  unfold packed at hx
  rcases List.mem_append.1 hx with hx | hx
  · unfold head at hx
    rcases List.mem_append.1 hx with hx | hx
    · exact lens_lt s x hx
    · simp only [List.mem_cons, List.not_mem_nil, or_false] at hx
      omega
  · unfold packBits at hx
    obtain ⟨j, _, rfl⟩ := List.mem_map.1 hx
    exact byteV_lt _
theorem toNat_ofNat (l : List Nat) (h : ∀ x ∈ l, x < 256) : (l.map UInt8.ofNat).map (·.toNat) = l := by
  rw [List.map_map]
  conv => rhs; rw [← List.map_id l]
  apply List.map_congr_left
  intro x hx
  simp only [Function.comp_apply, id_eq, UInt8.toNat_ofNat']
  exact Nat.mod_eq_of_lt (h x hx)
theorem ofNat_toNat (l : List UInt8) : (l.map (·.toNat)).map UInt8.ofNat = l := by
  rw [List.map_map]
  conv => rhs; rw [← List.map_id l]
  apply List.map_congr_left
  intro x _
  simp
theorem head_length (s t : List UInt8) : (head s (lens (counts t))).length = 259 := by
  unfold head
  rw [List.length_append, lens_length _ (by rw [counts_length]; exact Nat.le_refl _), counts_length]; rfl
theorem unpackP_packed (s : List UInt8) (h : s.length ≤ 4000) : unpackP ((packed s).map UInt8.ofNat) = some s := by
  have hcl := counts_length s
  have hdl := lens_length (counts s) (by rw [hcl]; exact Nat.le_refl _)
  rw [hcl] at hdl
  have hfit := fits_few (counts s) (by rw [hcl]; exact Nat.le_refl _) (by rw [counts_sum]; omega)
  have hz : (packed s).length = 259 + (packBits (bitsS (ofInts (lens (counts s))) (s.map (·.toNat)))).length := by
    unfold packed
    rw [List.length_append, head_length]
  have hq := toNat_ofNat (packed s) (packed_lt s)
  have ht : (packed s).take 256 = lens (counts s) := by
    unfold packed head
    rw [List.append_assoc, List.take_left' hdl]
  have hat : ∀ i, i < 3 → (packed s).getD (256 + i) 0 = [s.length / 65536 % 256, s.length / 256 % 256, s.length % 256].getD i 0 := by
    intro i hi
    unfold packed head
    rw [List.getD_eq_getElem?_getD, List.append_assoc, List.getElem?_append_right (by omega), hdl, Nat.add_sub_cancel_left, List.getElem?_append_left (by simpa using hi), List.getD_eq_getElem?_getD]
  have hn : readN (packed s) = s.length := by
    have h0 := hat 0 (by omega)
    have h1 := hat 1 (by omega)
    have h2 := hat 2 (by omega)
    simp only [Nat.add_zero, List.getD_cons_zero, List.getD_cons_succ] at h0 h1 h2
    unfold readN
    rw [h0, h1, h2]
    omega
  have hdec := decode_ok (ofInts (lens (counts s))) (head s (lens (counts s))) hfit.2 (fun x hx => (hfit.1 x hx).2) (s.map (·.toNat)) [] (by
    intro b hb
    obtain ⟨c, hc, rfl⟩ := List.mem_map.1 hb
    have hc8 := c.toNat_lt
    refine ⟨by unfold ofInts; rw [List.length_map, hdl]; exact hc8, ?_⟩
    have hp := lens_pos (counts s) (by rw [hcl]; exact Nat.le_refl _) c.toNat ⟨by rw [hcl]; exact hc8, by
      rw [counts_get _ _ hc8, List.countP_pos_iff]
      exact ⟨c, hc, by simp⟩⟩
    have hi : c.toNat < (lens (counts s)).length := by rw [hdl]; exact hc8
    rw [List.getD_eq_getElem?_getD, List.getElem?_eq_getElem hi] at hp
    unfold ofInts
    rw [List.getD_eq_getElem?_getD, List.getElem?_map, List.getElem?_eq_getElem hi]
    simp only [Option.getD_some, Option.map_some] at hp ⊢
    omega)
  have hb0 : (bitsS (ofInts (lens (counts s))) []).length = 0 := by simp [bitsS]
  rw [hb0, head_length, List.nil_append, List.length_map] at hdec
  unfold unpackP
  rw [List.length_map, hq, ht, hn, if_neg (by omega), if_neg (by rintro (h9 | h9); exact h9 ⟨hfit.1, hfit.2⟩; omega)]
  show (match decode (ofInts (lens (counts s))) (packed s) s.length 2072 with | none => none | some s' => if packed (s'.map UInt8.ofNat) = packed s then some (s'.map UInt8.ofNat) else none) = some s
  have hdec2 : decode (ofInts (lens (counts s))) (packed s) s.length 2072 = some (s.map (·.toNat)) := hdec
  rw [hdec2]
  simp only
  rw [ofNat_toNat]
  exact if_pos rfl
/-- the map of the signs of the first so many things -/
def findTo (L : List Int) (i k v : Nat) : Option Nat := if k = 0 then none else (List.range i).find? fun j => decide (L.getD j 0 = (k : Int)) && decide (code L j = v)
theorem findTo_all (L : List Int) (k v : Nat) (h : 0 < k) : findTo L L.length k v = findSym L k v := if_neg (by omega)
theorem findTo_zero (L : List Int) : findTo L 0 = fun _ _ => none := by
  funext k v
  unfold findTo
  split <;> simp
theorem findTo_skip (L : List Int) (i : Nat) (h : L.getD i 0 = 0) : findTo L (i + 1) = findTo L i := by
  funext k v
  unfold findTo
  split
  · rfl
  · rename_i hk
    rw [List.range_succ, List.find?_append]
    have e : ([i].find? fun j => decide (L.getD j 0 = (k : Int)) && decide (code L j = v)) = none := by
      rw [List.find?_cons_of_neg (by rw [h]; simp; omega)]; rfl
    rw [e, Option.or_none]
theorem findTo_put (L : List Int) (i n : Nat) (hi : i < L.length) (h : L.getD i 0 = (n : Int)) (h0 : 0 < n) : findTo L (i + 1) = fun x y => if x = n ∧ y = code L i then some i else findTo L i x y := by
  funext k v
  unfold findTo
  by_cases hk : k = 0
  · rw [if_pos hk, if_neg (by omega), if_pos hk]
  · rw [if_neg hk, if_neg hk, List.range_succ, List.find?_append]
    by_cases hm : k = n ∧ v = code L i
    · obtain ⟨rfl, rfl⟩ := hm
      rw [if_pos ⟨rfl, rfl⟩]
      have e1 : ((List.range i).find? fun j => decide (L.getD j 0 = (k : Int)) && decide (code L j = code L i)) = none := by
        rw [List.find?_eq_none]
        intro j hj
        rw [List.mem_range] at hj
        simp only [Bool.and_eq_true, decide_eq_true_eq, not_and]
        intro h1 h2
        have hap := apart L j i (by omega) hi (by omega) (by rw [h1]; omega) (by rw [h1, h]; exact Int.le_refl _)
        rw [h1, h, Int.sub_self] at hap
        simp only [Int.toNat_zero, Nat.pow_zero, Nat.div_one] at hap
        exact hap h2.symm
      have e2 : ([i].find? fun j => decide (L.getD j 0 = (k : Int)) && decide (code L j = code L i)) = some i := by
        rw [List.find?_cons_of_pos (by rw [h]; simp)]
      rw [e1, e2]; rfl
    · rw [if_neg hm]
      have e2 : ([i].find? fun j => decide (L.getD j 0 = (k : Int)) && decide (code L j = v)) = none := by
        rw [List.find?_cons_of_neg (by
          rw [h]
          simp only [Bool.and_eq_true, decide_eq_true_eq, not_and]
          intro h1 h2
          exact hm ⟨by omega, h2.symm⟩)]; rfl
      rw [e2, Option.or_none]
theorem bitsS_le (L : List Int) (h : ∀ x ∈ L, x ≤ 24) : ∀ t : List Nat, (bitsS L t).length ≤ 24 * t.length := by
  intro t
  induction t with
  | nil => simp [bitsS]
  | cons b t ih =>
    have hb : (L.getD b 0).toNat ≤ 24 := by
      rw [List.getD_eq_getElem?_getD]
      by_cases hi : b < L.length
      · have := h _ (List.getElem_mem hi)
        rw [List.getElem?_eq_getElem hi]
        simp only [Option.getD_some]
        omega
      · rw [List.getElem?_eq_none (by omega)]; simp
    rw [bitsS_cons, List.length_append, bitsOf_length, List.length_cons]
    omega
/-- one bit more behind -/
theorem or_bit (v b : Nat) (hb : b ≤ 1) : (2 * v ||| b) = 2 * v + b := by
  have h := Nat.two_pow_add_eq_or_of_lt (i := 1) (b := b) (by omega) v
  rw [Nat.pow_one] at h
  exact h.symm
theorem or_three (a b c : Nat) (hb : b < 256) (hc : c < 256) : ((a * 65536 ||| b * 256) ||| c) = a * 65536 + b * 256 + c := by
  have h1 := Nat.two_pow_add_eq_or_of_lt (i := 16) (b := b * 256) (by omega) a
  have h2 := Nat.two_pow_add_eq_or_of_lt (i := 8) (b := c) (by omega) (a * 256 + b)
  have e1 : a * 65536 = 2 ^ 16 * a := by rw [Nat.mul_comm]
  have e2 : 2 ^ 16 * a + b * 256 = 2 ^ 8 * (a * 256 + b) := by omega
  rw [e1, ← h1, e2, ← h2]
/-- decoding, from the bytes that are there -/
theorem decode_step (L : List Int) (p : List Nat) (n at_ c at2 : Nat) (h : dgo L p 24 1 0 at_ = some (c, at2)) : decode L p (n + 1) at_ = (decode L p n at2).map (c :: ·) := by
  conv => lhs; unfold decode
  rw [h]
theorem decode_stop (L : List Int) (p : List Nat) (n at_ : Nat) (h : dgo L p 24 1 0 at_ = none) : decode L p (n + 1) at_ = none := by
  conv => lhs; unfold decode
  rw [h]
theorem dgo_step (L : List Int) (p : List Nat) (f k v at_ : Nat) (h : at_ < 8 * p.length) : dgo L p (f + 1) k v at_ = (match findSym L k (2 * v + bitAt p at_) with | some c => some (c, at_ + 1) | none => dgo L p f (k + 1) (2 * v + bitAt p at_) (at_ + 1)) := by
  conv => lhs; unfold dgo
  rw [if_pos h]
  rfl
theorem dgo_end (L : List Int) (p : List Nat) (f k v at_ : Nat) (h : ¬ at_ < 8 * p.length) : dgo L p f k v at_ = none := by
  cases f with
  | zero => rfl
  | succ f => unfold dgo; rw [if_neg h]
end Huff
end Go.Proofs.Ytenhblpegobbjaa
