/- Where motions go: the plain law. No program in sight. -/
import Derived.Test.YtenhblpegobbjaaCommon
namespace Go.Proofs.Ytenhblpegobbjaa
set_option linter.unusedVariables false
set_option linter.unusedSimpArgs false
/-- a place that is there -/
def bnd (n : Nat) (x : Int) : Int := if x < 0 then 0 else if ((n - 1 : Nat) : Int) < x then ((n - 1 : Nat) : Int) else x
theorem bnd_nn (n : Nat) (x : Int) : 0 ≤ bnd n x ∧ bnd n x ≤ ((n - 1 : Nat) : Int) := by unfold bnd; split <;> (try split) <;> omega
/-- where a key goes, so many times: none: nowhere -/
def stp (m n : Nat) (a k : Int) : Option Int :=
  if m = 104 then some (bnd n (a - k)) else if m = 108 then some (bnd n (a + k)) else if m = 119 then some (bnd n (a - a % 4 + 4 * k))
  else if m = 98 then some (bnd n ((a + 3) / 4 * 4 - 4 * k)) else if m = 106 then (if ((n - 1 : Nat) : Int) < a + 16 * k then none else some (a + 16 * k))
  else (if a - 16 * k < 0 then none else some (a - 16 * k))
def IsKey (m : Nat) : Prop := m = 104 ∨ m = 108 ∨ m = 119 ∨ m = 98 ∨ m = 106 ∨ m = 107
theorem stp_bound (m n : Nat) (hm : IsKey m) (a k x : Int) (ha : 0 ≤ a) (ha2 : a ≤ ((n - 1 : Nat) : Int)) (hk : 0 ≤ k) (h : stp m n a k = some x) : 0 ≤ x ∧ x ≤ ((n - 1 : Nat) : Int) := by
  rcases hm with rfl | rfl | rfl | rfl | rfl | rfl <;> simp [stp] at h
  · subst h; exact bnd_nn _ _
  · subst h; exact bnd_nn _ _
  · subst h; exact bnd_nn _ _
  · subst h; exact bnd_nn _ _
  · omega
  · omega
theorem stp_none (m n : Nat) (hm : IsKey m) (a k k' : Int) (hk : k ≤ k') (h : stp m n a k = none) : stp m n a k' = none := by
  rcases hm with rfl | rfl | rfl | rfl | rfl | rfl <;> simp [stp] at h ⊢ <;> omega
theorem stp_step (m n : Nat) (hm : IsKey m) (a k x : Int) (ha : 0 ≤ a) (ha2 : a ≤ ((n - 1 : Nat) : Int)) (hk : 1 ≤ k) (h : stp m n a k = some x) : stp m n x 1 = stp m n a (k + 1) := by
  rcases hm with rfl | rfl | rfl | rfl | rfl | rfl <;> simp [stp] at h ⊢
  · subst h; unfold bnd; repeat (first | omega | (split <;> try omega))
  · subst h; unfold bnd; repeat (first | omega | (split <;> try omega))
  · subst h; unfold bnd; repeat (first | omega | (split <;> try omega))
  · subst h; unfold bnd; repeat (first | omega | (split <;> try omega))
  · obtain ⟨h1, rfl⟩ := h
    by_cases h2 : ((n - 1 : Nat) : Int) < a + 16 * k + 16
    · rw [if_pos h2, if_pos (by omega)]
    · rw [if_neg h2, if_neg (by omega)]; congr 1; omega
  · obtain ⟨h1, rfl⟩ := h
    by_cases h2 : a - 16 * k - 16 < 0
    · rw [if_pos (by omega), if_pos (by omega)]
    · rw [if_neg (by omega), if_neg (by omega)]; congr 1; omega
/-- step by step: where one is behind k steps -/
def at_k (m n : Nat) (a : Int) (k : Nat) : Int := if k = 0 then a else (stp m n a (k : Int)).getD 0
theorem at_next (m n : Nat) (hm : IsKey m) (a : Int) (k : Nat) (ha : 0 ≤ a) (ha2 : a ≤ ((n - 1 : Nat) : Int)) (hs : ∀ j : Nat, 1 ≤ j → j ≤ k → stp m n a (j : Int) ≠ none) : stp m n (at_k m n a k) 1 = stp m n a ((k : Int) + 1) := by
  unfold at_k
  by_cases h0 : k = 0
  · subst h0; simp
  · rw [if_neg h0]
    have h1 := hs k (by omega) (Nat.le_refl _)
    cases h : stp m n a (k : Int) with
    | none => exact absurd h h1
    | some x => exact stp_step m n hm a k x ha ha2 (by omega) h
theorem at_bound (m n : Nat) (hm : IsKey m) (a : Int) (k : Nat) (ha : 0 ≤ a) (ha2 : a ≤ ((n - 1 : Nat) : Int)) : 0 ≤ at_k m n a k ∧ at_k m n a k ≤ ((n - 1 : Nat) : Int) := by
  unfold at_k
  split
  · exact ⟨ha, ha2⟩
  · cases h : stp m n a (k : Int) with
    | none => simp
    | some x => exact stp_bound m n hm a k x ha ha2 (by omega) h
end Go.Proofs.Ytenhblpegobbjaa
