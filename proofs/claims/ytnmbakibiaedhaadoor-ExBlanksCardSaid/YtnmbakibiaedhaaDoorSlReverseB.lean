/- Contracts of slices.Reverse at []int and []byte, of a row of the call's own. -/
import Derived.Test.YtnmbakibiaedhaaDoorChecked
import Derived.Test.YtnmbakibiaedhaaDoorOwn
import Derived.BigRegion
namespace Go.Proofs.YtnmbakibiaedhaaDoor
open Go.RowKit
set_option linter.unusedVariables false
set_option linter.unusedSimpArgs false
theorem bvals_setI (l : List UInt8) (i : Nat) (b : UInt8) : (bvals l).set i (.int .u8 ((b.toNat : Nat) : Int)) = bvals (l.set i b) := bvals_set l i b
/-- two places of a list change -/
def swapL {α : Type} (xs : List α) (d : α) (i j : Nat) : List α := (xs.set i (xs.getD j d)).set j (xs.getD i d)
/-- i bytes of either end are turned round -/
def revTo {α : Type} (xs : List α) (k : Nat) : List α := (xs.drop (xs.length - k)).reverse ++ (xs.drop k).take (xs.length - 2 * k) ++ (xs.take k).reverse
theorem revTo_length {α : Type} (xs : List α) (k : Nat) (h : 2 * k ≤ xs.length) : (revTo xs k).length = xs.length := by simp [revTo]; omega
theorem revTo_zero {α : Type} (xs : List α) : revTo xs 0 = xs := by simp [revTo]
theorem revTo_get {α : Type} (xs : List α) (k : Nat) (h : 2 * k ≤ xs.length) (q : Nat) (hq : q < xs.length) :
    (revTo xs k)[q]? = if q < k ∨ xs.length - k ≤ q then xs[xs.length - 1 - q]? else xs[q]? := by
  unfold revTo
  rw [List.append_assoc]
  by_cases h1 : q < k
  · rw [if_pos (.inl h1), List.getElem?_append_left (by simp; omega), List.getElem?_reverse (by simp; omega), List.getElem?_drop, List.length_drop]
    congr 1; omega
  · rw [List.getElem?_append_right (by simp; omega)]
    have hl1 : (xs.drop (xs.length - k)).reverse.length = k := by simp; omega
    rw [hl1]
    by_cases h2 : xs.length - k ≤ q
    · rw [if_pos (.inr h2), List.getElem?_append_right (by simp; omega)]
      have hl2 : ((xs.drop k).take (xs.length - 2 * k)).length = xs.length - 2 * k := by simp; omega
      rw [hl2, List.getElem?_reverse (by simp; omega), List.getElem?_take, List.length_take]
      rw [if_pos (by omega)]
      congr 1; omega
    · rw [if_neg (by omega), List.getElem?_append_left (by simp; omega), List.getElem?_take, if_pos (by omega), List.getElem?_drop]
      congr 1; omega
theorem revTo_step {α : Type} (xs : List α) (d : α) (k : Nat) (h : 2 * k + 1 < xs.length) : swapL (revTo xs k) d k (xs.length - 1 - k) = revTo xs (k + 1) := by
  apply List.ext_getElem?
  intro q
  have hl := revTo_length xs k (by omega)
  have hl' := revTo_length xs (k + 1) (by omega)
  by_cases hq : q < xs.length
  · rw [revTo_get xs (k + 1) (by omega) q hq]
    unfold swapL
    have g1 := revTo_get xs k (by omega) k (by omega)
    have g2 := revTo_get xs k (by omega) (xs.length - 1 - k) (by omega)
    rw [if_neg (by omega)] at g1 g2
    have e1 : (revTo xs k).getD k d = xs.getD k d := by rw [List.getD_eq_getElem?_getD, g1, List.getD_eq_getElem?_getD]
    have e2 : (revTo xs k).getD (xs.length - 1 - k) d = xs.getD (xs.length - 1 - k) d := by rw [List.getD_eq_getElem?_getD, g2, List.getD_eq_getElem?_getD]
    rw [e1, e2, List.getElem?_set, List.length_set, hl]
    by_cases h1 : xs.length - 1 - k = q
    · rw [if_pos h1, if_pos (by omega), if_pos (.inr (by omega)), List.getD_eq_getElem?_getD, List.getElem?_eq_getElem (show k < xs.length by omega)]
      rw [show xs.length - 1 - q = k from by omega, List.getElem?_eq_getElem (show k < xs.length by omega)]; rfl
    · rw [if_neg h1, List.getElem?_set, hl]
      by_cases h2 : k = q
      · subst h2
        rw [if_pos rfl, if_pos (by omega), if_pos (.inl (by omega)), List.getD_eq_getElem?_getD, List.getElem?_eq_getElem (show xs.length - 1 - k < xs.length by omega)]; rfl
      · rw [if_neg h2, revTo_get xs k (by omega) q hq]
        by_cases h3 : q < k ∨ xs.length - k ≤ q
        · rw [if_pos h3, if_pos (by omega)]
        · rw [if_neg h3, if_neg (by omega)]
  · rw [List.getElem?_eq_none (by simp [swapL, hl]; omega), List.getElem?_eq_none (by omega)]
theorem revTo_done {α : Type} (xs : List α) (k : Nat) (h : 2 * k ≤ xs.length) (h2 : xs.length ≤ 2 * k + 1) : revTo xs k = xs.reverse := by
  apply List.ext_getElem?
  intro q
  by_cases hq : q < xs.length
  · rw [revTo_get xs k h q hq, List.getElem?_reverse (by simpa using hq)]
    by_cases h3 : q < k ∨ xs.length - k ≤ q
    · rw [if_pos h3]
    · rw [if_neg h3]; congr 1; omega
  · rw [List.getElem?_eq_none (by rw [revTo_length _ _ h]; omega), List.getElem?_eq_none (by simp; omega)]
set_option maxRecDepth 100000 in
set_option maxHeartbeats 1000000 in
theorem Reverse_bytes (g n cap : Nat) (e : TypeId) (L : List UInt8) (w : World) (hn : L.length = n) (hn2 : n ≤ 4611686018427387904) (h : RowAt w g 0 e (bvals L)) :
    Calls Tryd.prog 77 #[.slice (some ⟨g, 0, none⟩) n cap] w fun e' w' => e' = .returned (.tuple #[]) ∧ RowAt w' g 0 e (bvals L.reverse) ∧ w.grownBy w' (some g) := by
  have HN := Lib.hid hn; clear hn
  go_enter Tryd.func77, Tryd.ntmps77
  go_wp2_with fail
  go_loopw [2, 3] (fun i j wr => ∃ k : Nat, 2 * k ≤ n ∧ i = .int .i64 k ∧ j = .int .i64 ((n : Int) - 1 - (k : Int)) ∧ RowAt wr g 0 e (bvals (revTo L k)) ∧ w.grownBy wr (some g)) (fun i _ _ => n - (intOf i).toNat)
  case atStart => exact ⟨0, by omega, rfl, by go_num, by rw [revTo_zero]; exact h, ⟨rfl, rfl, rfl, Nat.le_refl _, fun _ _ _ => rfl⟩⟩
  case round =>
    obtain ⟨k, hk, rfl, rfl, hrow, hg⟩ := hrel
    by_cases hlt : 2 * k + 1 < n
    · have hst := revTo_step L 0 k (by rw [HN.out]; exact hlt)
      have hrl := revTo_length L k (by rw [HN.out]; exact hk)
      rw [HN.out] at hst hrl
      obtain ⟨m, hm⟩ : ∃ m, m = n - 1 - k := ⟨_, rfl⟩
      have hj : (n : Int) - 1 - (k : Int) = (m : Int) := by omega
      rw [← hm] at hst
      rw [hj]
      have hkm : k < m := by omega
      have hmn : m < n := by omega
      have hkn : k < n := by omega
      have hkmI : (k : Int) < (m : Int) := by omega
      have hmnI : (m : Int) < (n : Int) := by omega
      have hknI : (k : Int) < (n : Int) := by omega
      have hk2 : m + k + 1 = n := by omega
      have HK2 := Lib.hid hk2; clear hk2
      clear hm hj hlt
      generalize hM : revTo L k = M at *
      have hc1 := hrow.byte0 k (by omega)
      have hc2 := hrow.byte0 m (by omega)
      have hf1 := hrow.frozen0 k (by rw [bvals_length]; omega)
      have hf2 := hrow.frozen0 m (by rw [bvals_length]; omega)
      have HRL := Lib.hid hrl; clear hrl
      have HM := Lib.hid hM; clear hM
      unfold swapL at hst
      generalize hx : M.getD k 0 = x at *
      generalize hy : M.getD m 0 = y at *
      have HST := Lib.hid hst; clear hst
      have HX := Lib.hid hx; clear hx
      have HY := Lib.hid hy; clear hy
      have hne : (k = m) = False := by simp; omega
      have hne2 : (m = k) = False := by simp; omega
      go_wp2_with fail
      go_region
      all_goals go_wp2_with fail
      go_roundw
      case rel =>
        have h1 := hrow.set0 k (by rw [bvals_length, HRL.out]; exact hkn) (.int .u8 ((y.toNat : Nat) : Int))
        rw [bvals_setI] at h1
        have h2 := h1.set0 m (by rw [bvals_length, List.length_set, HRL.out]; exact hmn) (.int .u8 ((x.toNat : Nat) : Int))
        rw [bvals_setI, HST.out] at h2
        exact ⟨k + 1, by have := HK2.out; omega, by go_num, by have := HK2.out; go_num, h2.drew, grown_drew (grown_set (grown_set hg rfl _) rfl _)⟩
      case measure => simp [intOf]; omega
    · have hd : decide ((k : Int) < (n : Int) - 1 - (k : Int)) = false := by rw [decide_eq_false_iff_not]; omega
      go_wp2_with fail
      go_end0
      refine ⟨rfl, ?_, hg⟩
      rw [revTo_done L k (by rw [HN.out]; exact hk) (by rw [HN.out]; omega)] at hrow
      exact hrow
end Go.Proofs.YtnmbakibiaedhaaDoor
