/- A number's text, in plain words: what it is read as, and how it is written. -/
import Derived.Test.YtlomecfhobehnaaGreatDoorChecked
import Derived.BigRegion
import Derived.Test.YtlomecfhobehnaaGreatDoorMgLayoutBack1
import Derived.Test.YtlomecfhobehnaaGreatDoorMgLayoutBack0
section
/- Contracts of slices.Reverse at []int and []byte, of a row of the call's own. -/
namespace Go.Proofs.YtlomecfhobehnaaGreatDoor
open Go.RowKit
set_option linter.unusedVariables false
set_option linter.unusedSimpArgs false
theorem bvals_setI (l : List UInt8) (i : Nat) (b : UInt8) : (bvals l).set i (.int .u8 ((b.toNat : Nat) : Int)) = bvals (l.set i b) := bvals_set l i b
/-- two places of a list change -/
def swapL {α : Type} (xs : List α) (d : α) (i j : Nat) : List α := (xs.set i (xs.getD j d)).set j (xs.getD i d)
/-- i bytes of either end are turned round -/
def revTo {α : Type} (xs : List α) (k : Nat) : List α := (xs.drop (xs.length - k)).reverse ++ (xs.drop k).take (xs.length - 2 * k) ++ (xs.take k).reverse
theorem revTo_length {α : Type} (xs : List α) (k : Nat) (h : 2 * k ≤ xs.length) : (revTo xs k).length = xs.length := by simp [revTo]; omega
theorem revTo_zero {α : Type} (xs : List α) : revTo xs 0 = xs := by simp [revTo]
theorem revTo_get {α : Type} (xs : List α) (k : Nat) (h : 2 * k ≤ xs.length) (q : Nat) (hq : q < xs.length) :
    (revTo xs k)[q]? = if q < k ∨ xs.length - k ≤ q then xs[xs.length - 1 - q]? else xs[q]? := by
  unfold revTo
  rw [List.append_assoc]
  by_cases h1 : q < k
  · rw [if_pos (.inl h1), List.getElem?_append_left (by simp; omega), List.getElem?_reverse (by simp; omega), List.getElem?_drop, List.length_drop]
    congr 1; omega
  · rw [List.getElem?_append_right (by simp; omega)]
    have hl1 : (xs.drop (xs.length - k)).reverse.length = k := by simp; omega
    rw [hl1]
    by_cases h2 : xs.length - k ≤ q
    · rw [if_pos (.inr h2), List.getElem?_append_right (by simp; omega)]
      have hl2 : ((xs.drop k).take (xs.length - 2 * k)).length = xs.length - 2 * k := by simp; omega
      rw [hl2, List.getElem?_reverse (by simp; omega), List.getElem?_take, List.length_take]
      rw [if_pos (by omega)]
      congr 1; omega
    · rw [if_neg (by omega), List.getElem?_append_left (by simp; omega), List.getElem?_take, if_pos (by omega), List.getElem?_drop]
      congr 1; omega
theorem revTo_step {α : Type} (xs : List α) (d : α) (k : Nat) (h : 2 * k + 1 < xs.length) : swapL (revTo xs k) d k (xs.length - 1 - k) = revTo xs (k + 1) := by
  apply List.ext_getElem?
  intro q
  have hl := revTo_length xs k (by omega)
  have hl' := revTo_length xs (k + 1) (by omega)
  by_cases hq : q < xs.length
  · rw [revTo_get xs (k + 1) (by omega) q hq]
    unfold swapL
    have g1 := revTo_get xs k (by omega) k (by omega)
    have g2 := revTo_get xs k (by omega) (xs.length - 1 - k) (by omega)
    rw [if_neg (by omega)] at g1 g2
    have e1 : (revTo xs k).getD k d = xs.getD k d := by rw [List.getD_eq_getElem?_getD, g1, List.getD_eq_getElem?_getD]
    have e2 : (revTo xs k).getD (xs.length - 1 - k) d = xs.getD (xs.length - 1 - k) d := by rw [List.getD_eq_getElem?_getD, g2, List.getD_eq_getElem?_getD]
    rw [e1, e2, List.getElem?_set, List.length_set, hl]
    by_cases h1 : xs.length - 1 - k = q
    · rw [if_pos h1, if_pos (by omega), if_pos (.inr (by omega)), List.getD_eq_getElem?_getD, List.getElem?_eq_getElem (show k < xs.length by omega)]
      rw [show xs.length - 1 - q = k from by omega, List.getElem?_eq_getElem (show k < xs.length by omega)]; rfl
    · rw [if_neg h1, List.getElem?_set, hl]
      by_cases h2 : k = q
      · subst h2
        rw [if_pos rfl, if_pos (by omega), if_pos (.inl (by omega)), List.getD_eq_getElem?_getD, List.getElem?_eq_getElem (show xs.length - 1 - k < xs.length by omega)]; rfl
      · rw [if_neg h2, revTo_get xs k (by omega) q hq]
        by_cases h3 : q < k ∨ xs.length - k ≤ q
        · rw [if_pos h3, if_pos (by omega)]
        · rw [if_neg h3, if_neg (by omega)]
  · rw [List.getElem?_eq_none (by simp [swapL, hl]; omega), List.getElem?_eq_none (by omega)]
theorem revTo_done {α : Type} (xs : List α) (k : Nat) (h : 2 * k ≤ xs.length) (h2 : xs.length ≤ 2 * k + 1) : revTo xs k = xs.reverse := by
  apply List.ext_getElem?
  intro q
  by_cases hq : q < xs.length
  · rw [revTo_get xs k h q hq, List.getElem?_reverse (by simpa using hq)]
    by_cases h3 : q < k ∨ xs.length - k ≤ q
    · rw [if_pos h3]
    · rw [if_neg h3]; congr 1; omega
  · rw [List.getElem?_eq_none (by rw [revTo_length _ _ h]; omega), List.getElem?_eq_none (by simp; omega)]
set_option maxRecDepth 100000 in
set_option maxHeartbeats 1000000 in
theorem Reverse_bytes (g n cap : Nat) (e : TypeId) (L : List UInt8) (w : World) (hn : L.length = n) (hn2 : n ≤ 4611686018427387904) (h : RowAt w g 0 e (bvals L)) :
    Calls Tryz.prog 150 #[.slice (some ⟨g, 0, none⟩) n cap] w fun e' w' => e' = .returned (.tuple #[]) ∧ RowAt w' g 0 e (bvals L.reverse) ∧ w.grownBy w' (some g) := by
  have HN := Lib.hid hn; clear hn
  go_enter Tryz.func150, Tryz.ntmps150
  go_wp2_with fail
  go_loopw [2, 3] (fun i j wr => ∃ k : Nat, 2 * k ≤ n ∧ i = .int .i64 k ∧ j = .int .i64 ((n : Int) - 1 - (k : Int)) ∧ RowAt wr g 0 e (bvals (revTo L k)) ∧ w.grownBy wr (some g)) (fun i _ _ => n - (intOf i).toNat)
  case atStart => exact ⟨0, by omega, rfl, by go_num, by rw [revTo_zero]; exact h, ⟨rfl, rfl, rfl, Nat.le_refl _, fun _ _ _ => rfl⟩⟩
  case round =>
    obtain ⟨k, hk, rfl, rfl, hrow, hg⟩ := hrel
    by_cases hlt : 2 * k + 1 < n
    · have hst := revTo_step L 0 k (by rw [HN.out]; exact hlt)
      have hrl := revTo_length L k (by rw [HN.out]; exact hk)
      rw [HN.out] at hst hrl
      obtain ⟨m, hm⟩ : ∃ m, m = n - 1 - k := ⟨_, rfl⟩
      have hj : (n : Int) - 1 - (k : Int) = (m : Int) := by omega
      rw [← hm] at hst
      rw [hj]
      have hkm : k < m := by omega
      have hmn : m < n := by omega
      have hkn : k < n := by omega
      have hkmI : (k : Int) < (m : Int) := by omega
      have hmnI : (m : Int) < (n : Int) := by omega
      have hknI : (k : Int) < (n : Int) := by omega
      have hk2 : m + k + 1 = n := by omega
      have HK2 := Lib.hid hk2; clear hk2
      clear hm hj hlt
      generalize hM : revTo L k = M at *
      have hc1 := hrow.byte0 k (by omega)
      have hc2 := hrow.byte0 m (by omega)
      have hf1 := hrow.frozen0 k (by rw [bvals_length]; omega)
      have hf2 := hrow.frozen0 m (by rw [bvals_length]; omega)
      have HRL := Lib.hid hrl; clear hrl
      have HM := Lib.hid hM; clear hM
      unfold swapL at hst
      generalize hx : M.getD k 0 = x at *
      generalize hy : M.getD m 0 = y at *
      have HST := Lib.hid hst; clear hst
      have HX := Lib.hid hx; clear hx
      have HY := Lib.hid hy; clear hy
      have hne : (k = m) = False := by simp; omega
      have hne2 : (m = k) = False := by simp; omega
      go_wp2_with fail
      go_region
      all_goals go_wp2_with fail
      go_roundw
      case rel =>
        have h1 := hrow.set0 k (by rw [bvals_length, HRL.out]; exact hkn) (.int .u8 ((y.toNat : Nat) : Int))
        rw [bvals_setI] at h1
        have h2 := h1.set0 m (by rw [bvals_length, List.length_set, HRL.out]; exact hmn) (.int .u8 ((x.toNat : Nat) : Int))
        rw [bvals_setI, HST.out] at h2
        exact ⟨k + 1, by have := HK2.out; omega, by go_num, by have := HK2.out; go_num, h2.drew, grown_drew (grown_set (grown_set hg rfl _) rfl _)⟩
      case measure => simp [intOf]; omega
    · have hd : decide ((k : Int) < (n : Int) - 1 - (k : Int)) = false := by rw [decide_eq_false_iff_not]; omega
      go_wp2_with fail
      go_end0
      refine ⟨rfl, ?_, hg⟩
      rw [revTo_done L k (by rw [HN.out]; exact hk) (by rw [HN.out]; omega)] at hrow
      exact hrow
end Go.Proofs.YtlomecfhobehnaaGreatDoor
end
section
/- What the program's table says of some element types. -/
namespace Go.Proofs.YtlomecfhobehnaaGreatDoor
theorem infoU8 : (Tryz.prog.info? 5).map (fun i => (i.zero, i.size, i.bytes)) = some (some (.int .u8 0), 1, 1) := by kernel_rfl
end Go.Proofs.YtlomecfhobehnaaGreatDoor
end
section
/- Plain law of package digits: digits by a base. -/
namespace Go.Proofs.YtlomecfhobehnaaGreatDoor
namespace Digits
set_option linter.unusedVariables false
set_option linter.unusedSimpArgs false
/-- digit i of n, from the right -/
def dg (b n i : Nat) : Nat := n / b ^ i % b
theorem dg_lt (b n i : Nat) (hb : 2 ≤ b) : dg b n i < b := Nat.mod_lt _ (by omega)
/-- a digit as a byte -/
def fig (d : Nat) : Nat := if d < 10 then 48 + d else 87 + d
/-- how many digits a number has, so many at least: the least j from m on with n < b^j -/
def Wide (b n m j : Nat) : Prop := m ≤ j ∧ n < b ^ j ∧ ∀ k, m ≤ k → n < b ^ k → j ≤ k
theorem Wide.unique {b n m j k : Nat} (h : Wide b n m j) (g : Wide b n m k) : j = k := by
  have := h.2.2 k g.1 g.2.1; have := g.2.2 j h.1 h.2.1; omega
theorem div_zero_iff (b n j : Nat) (hb : 2 ≤ b) : n / b ^ j = 0 ↔ n < b ^ j := by
  have : 0 < b ^ j := Nat.pow_pos (by omega)
  rw [Nat.div_eq_zero_iff]; omega
/-- where the loop ends -/
theorem Wide.of (b n m j : Nat) (hb : 2 ≤ b) (h1 : m ≤ j) (h2 : n / b ^ j = 0) (h3 : ∀ k, k < j → ¬ (m ≤ k ∧ n / b ^ k = 0)) : Wide b n m j := by
  refine ⟨h1, (div_zero_iff b n j hb).mp h2, fun k hk hn => ?_⟩
  by_cases hkj : k < j
  · exact absurd ⟨hk, (div_zero_iff b n k hb).mpr hn⟩ (h3 k hkj)
  · omega
theorem Wide.le64 {b n m j : Nat} (hb : 2 ≤ b) (hn : n < 2 ^ 64) (hm : m ≤ 64) (h : Wide b n m j) : j ≤ 64 :=
  h.2.2 64 hm (Nat.lt_of_lt_of_le hn (Nat.pow_le_pow_left hb 64))
/-- the digits, the greatest first -/
def ds (b n j : Nat) : List UInt8 := ((List.range j).map fun i => UInt8.ofNat (fig (dg b n i))).reverse
theorem ds_length (b n j : Nat) : (ds b n j).length = j := by simp [ds]
theorem ds_get (b n j i : Nat) (h : i < j) : (ds b n j).getD i 0 = UInt8.ofNat (fig (dg b n (j - 1 - i))) := by
  have h' : i < (ds b n j).length := by rw [ds_length]; exact h
  rw [List.getD_eq_getElem?_getD, List.getElem?_eq_getElem h']
  simp [ds]
theorem fig_lt (d : Nat) (h : d < 16) : fig d < 103 ∧ 48 ≤ fig d := by unfold fig; split <;> omega
theorem fig_mono {c d : Nat} (h : c < d) : fig c < fig d := by unfold fig; split <;> split <;> omega
theorem fig_inj {c d : Nat} (h : fig c = fig d) : c = d := by
  rcases Nat.lt_trichotomy c d with h1 | h1 | h1
  · have := fig_mono h1; omega
  · exact h1
  · have := fig_mono h1; omega
theorem fig_toNat (d : Nat) (h : d < 16) : (UInt8.ofNat (fig d)).toNat = fig d := by
  have := fig_lt d h
  rw [UInt8.toNat_ofNat']; omega
/-- what the digits from the left on are worth -/
theorem worth (b n j k : Nat) (hb : 2 ≤ b) (h : k < j) : n / b ^ (j - (k + 1)) = n / b ^ (j - k) * b + dg b n (j - 1 - k) := by
  unfold dg
  have e : j - k = (j - (k + 1)) + 1 := by omega
  have e2 : j - 1 - k = j - (k + 1) := by omega
  rw [e, e2, Nat.pow_succ, ← Nat.div_div_eq_div_mul]
  have := Nat.div_add_mod (n / b ^ (j - (k + 1))) b
  rw [Nat.mul_comm] at this
  omega
/-- the first digit is not 0 -/
theorem top (b n j : Nat) (hb : 2 ≤ b) (h : Wide b n 1 j) (hn : 0 < n) : dg b n (j - 1) ≠ 0 := by
  obtain ⟨h1, h2, h3⟩ := h
  unfold dg
  have hlt : n / b ^ (j - 1) < b := by
    rw [Nat.div_lt_iff_lt_mul (Nat.pow_pos (by omega)), ← Nat.pow_succ', show (j - 1).succ = j by omega]
    exact h2
  rw [Nat.mod_eq_of_lt hlt]
  intro h0
  by_cases hj : j = 1
  · subst hj; simp at h0; omega
  · have := (div_zero_iff b n (j - 1) hb).mp h0
    have := h3 (j - 1) (by omega) this
    omega
/-- less, digit by digit -/
theorem div_lt_of (b a c j : Nat) (h : a / b ^ j < c / b ^ j) : a < c := by
  by_cases hac : a < c
  · exact hac
  · have := Nat.div_le_div_right (c := b ^ j) (show c ≤ a by omega)
    omega
end Digits
end Go.Proofs.YtlomecfhobehnaaGreatDoor
end
section
/- Contracts of package digits: Digit, Print. -/
namespace Go.Proofs.YtlomecfhobehnaaGreatDoor
open Go.RowKit
set_option linter.unusedVariables false
set_option linter.unusedSimpArgs false
namespace Keys
/-- what a byte is as a digit -/
def dig (c : Nat) : Int := if 48 ≤ c ∧ c ≤ 57 then (c : Int) - 48 else if 97 ≤ c ∧ c ≤ 102 then (c : Int) - 97 + 10 else if 65 ≤ c ∧ c ≤ 70 then (c : Int) - 65 + 10 else -1
end Keys
set_option maxRecDepth 100000 in
theorem Digit_any (c : Nat) (w : World) (h : c < 256) :
    Calls Tryz.prog 158 #[.int .u8 (c : Int)] w fun e w' => e = .returned (.int .i64 (Keys.dig c)) ∧ w = w' := by
  unfold Keys.dig
  by_cases h1 : 48 ≤ c ∧ c ≤ 57
  · have a1 : 48 ≤ c := h1.1
    have a2 : c ≤ 57 := h1.2
    rw [if_pos h1]
    clear h1
    go_enter Tryz.func158, Tryz.ntmps158
    go_wp2_with fail
    go_ret
    exact ⟨rfl, rfl⟩
  · rw [if_neg h1]
    have b1 : (decide ((48 : Int) ≤ (c : Int)) && decide ((c : Int) ≤ 57)) = false := by
      rw [Bool.and_eq_false_iff, decide_eq_false_iff_not, decide_eq_false_iff_not]; omega
    by_cases h2 : 97 ≤ c ∧ c ≤ 102
    · have a1 : 97 ≤ c := h2.1
      have a2 : c ≤ 102 := h2.2
      rw [if_pos h2]
      clear h1 h2
      go_enter Tryz.func158, Tryz.ntmps158
      go_wp2_with fail
      go_ret
      exact ⟨rfl, rfl⟩
    · rw [if_neg h2]
      by_cases h3 : 65 ≤ c ∧ c ≤ 70
      · have a1 : 65 ≤ c := h3.1
        have a2 : c ≤ 70 := h3.2
        rw [if_pos h3]
        clear h1 h2 h3
        go_enter Tryz.func158, Tryz.ntmps158
        go_wp2_with fail
        go_ret
        exact ⟨rfl, rfl⟩
      · rw [if_neg h3]
        go_enter Tryz.func158, Tryz.ntmps158
        go_wp2_with fail
        all_goals first | (go_ret; first | done | exact ⟨rfl, rfl⟩) | (exfalso; omega)
def lenOf : Value → Nat
  | .slice _ n _ => n
  | _ => 0
theorem Owns.fresh_row {w : World} {B : Nat} {e : TypeId} {size : Nat} {g n cap : Nat} {xs : List Value} (h : Owns w B e size (some ⟨g, 0, none⟩) n cap xs) : RowAt w g 0 e xs ∧ B ≤ g := ⟨h.row.2.2.2.2, h.row.2.1⟩
namespace Digits
/-- the digits from the right on -/
def le (b n j : Nat) : List UInt8 := (List.range j).map fun i => UInt8.ofNat (fig (dg b n i))
theorem le_length (b n j : Nat) : (le b n j).length = j := by simp [le]
theorem le_succ (b n j : Nat) : le b n (j + 1) = le b n j ++ [UInt8.ofNat (fig (dg b n j))] := by simp [le, List.range_succ]
theorem le_rev (b n j : Nat) : (le b n j).reverse = ds b n j := rfl
set_option maxRecDepth 100000 in
theorem fig_at (d : Nat) (h : d < 16) : ∀ w : World, (Instr.index 9 (.string ⟨#[48, 49, 50, 51, 52, 53, 54, 55, 56, 57, 97, 98, 99, 100, 101, 102]⟩) (.int .u64 (d : Nat))).run Tryz.prog w = .ok (.int .u8 (fig d : Nat)) w := by
  match d, h with
  | 0, _ => exact fun _ => by kernel_rfl
  | 1, _ => exact fun _ => by kernel_rfl
  | 2, _ => exact fun _ => by kernel_rfl
  | 3, _ => exact fun _ => by kernel_rfl
  | 4, _ => exact fun _ => by kernel_rfl
  | 5, _ => exact fun _ => by kernel_rfl
  | 6, _ => exact fun _ => by kernel_rfl
  | 7, _ => exact fun _ => by kernel_rfl
  | 8, _ => exact fun _ => by kernel_rfl
  | 9, _ => exact fun _ => by kernel_rfl
  | 10, _ => exact fun _ => by kernel_rfl
  | 11, _ => exact fun _ => by kernel_rfl
  | 12, _ => exact fun _ => by kernel_rfl
  | 13, _ => exact fun _ => by kernel_rfl
  | 14, _ => exact fun _ => by kernel_rfl
  | 15, _ => exact fun _ => by kernel_rfl
  | k + 16, h => omega
end Digits
set_option maxRecDepth 100000 in
set_option maxHeartbeats 1000000 in
theorem Print_any (n b wd : Nat) (w : World) (hn : n < 18446744073709551616) (hb : 2 ≤ b) (hb2 : b ≤ 16) (hw : wd ≤ 64) :
    Calls Tryz.prog 133 #[.int .u64 (n : Nat), .int .i64 (b : Nat), .int .i64 (wd : Nat)] w fun e w' => (∃ J, Digits.Wide b n (max wd 1) J ∧ e = .returned (.tuple #[.string (bstr (Digits.ds b n J)), .nilIface])) ∧ Below w.heap.size w w' := by
  have hbw : IntKind.u64.wrap (b : Int) = (b : Int) := by rw [IntKind.wrap_u64]; omega
  have hb0 : (b : Int) ≠ 0 := by omega
  obtain ⟨B, hB⟩ : ∃ B, B = w.heap.size := ⟨_, rfl⟩
  rw [← hB]
  have HB := Lib.hid hB; clear hB
  have hd1 : decide ((b : Int) < 2) = false := by rw [decide_eq_false_iff_not]; omega
  have hd2 : decide ((16 : Int) < (b : Int)) = false := by rw [decide_eq_false_iff_not]; omega
  have hd3 : decide ((wd : Int) < 0) = false := by rw [decide_eq_false_iff_not]; omega
  have hd4 : decide ((64 : Int) < (wd : Int)) = false := by rw [decide_eq_false_iff_not]; omega
  go_enter Tryz.func133, Tryz.ntmps133
  go_wp2_with fail
  go_loopw [0, 8] (fun v0 v8 wr => ∃ (j cap : Nat) (a : Option Addr), j ≤ 64 ∧ v0 = .int .u64 ((n / b ^ j : Nat) : Int) ∧ v8 = .slice a j cap ∧ Hid (Owns wr B 5 1 a j cap (bvals (Digits.le b n j))) ∧ Hid (∀ k, k < j → ¬ (max wd 1 ≤ k ∧ n / b ^ k = 0)) ∧ Below B w wr) (fun _ v8 _ => 65 - lenOf v8)
  case atStart => exact ⟨0, 0, none, by omega, by rw [Nat.pow_zero, Nat.div_one], rfl, Lib.hid (Owns.nil _ _ _ _), Lib.hid (fun k h => by omega), Below.refl _ _⟩
  case round =>
    obtain ⟨j, cap, a, hj, rfl, rfl, HO, HN, hbe⟩ := hrel
    by_cases hstop : max wd 1 ≤ j ∧ n / b ^ j = 0
    · have hwide := Digits.Wide.of b n (max wd 1) j hb hstop.1 hstop.2 HN.out
      have HW := Lib.hid hwide; clear hwide
      rw [hstop.2]
      have e1 : decide (j < wd) = false := by rw [decide_eq_false_iff_not]; omega
      have e2 : ((j : Int) == 0) = false := by rw [beq_eq_false_iff_ne]; omega
      have hj1 : 1 ≤ j := by omega
      clear hstop
      cases a with
      | none => have := HO.out.of_none; omega
      | some x =>
        obtain ⟨h1, h2, h3, h4, h5⟩ := HO.out.row
        rw [h1]
        generalize x.block = g at *
        have hrev := Reverse_bytes g j cap 5 (Digits.le b n j) wr (Digits.le_length _ _ _) (by omega) h5
        have HR := Lib.hid hrev; clear hrev
        go_wp2_with fail
        refine HR.out.mono ?_
        rintro e w1 ⟨rfl, hrow, hg⟩
        rw [Digits.le_rev] at hrow
        have hstr := run_string_of 147 5 9 Tryz.underlying147 Tryz.underlying5 Tryz.underlying9 hrow j cap (Digits.ds_length _ _ _).symm
        go_wp2_with fail
        go_ret2
        exact ⟨⟨j, HW.out, rfl⟩, hbe.grown hg (by rw [HB.out]; exact hbe.size) (fun k e => by cases e; exact h2)⟩
    · have hj64 : j < 64 := by
        rcases Nat.lt_or_ge j 64 with h | h
        · exact h
        · exfalso
          obtain rfl : j = 64 := by omega
          exact hstop ⟨by omega, (Digits.div_zero_iff b n 64 hb).mpr (Nat.lt_of_lt_of_le hn (Nat.pow_le_pow_left hb 64))⟩
      have hN2 : ∀ k, k < j + 1 → ¬ (max wd 1 ≤ k ∧ n / b ^ k = 0) := fun k hk => by
        by_cases h : k = j
        · rw [h]; exact hstop
        · exact HN.out k (by omega)
      have HN2 := Lib.hid hN2; clear hN2
      have hdiv : (n / b ^ j) / b = n / b ^ (j + 1) := by rw [Nat.pow_succ, ← Nat.div_div_eq_div_mul]
      have hfig := Digits.fig_at (n / b ^ j % b) (Nat.lt_of_lt_of_le (Nat.mod_lt _ (by omega)) hb2)
      have hft : ((Digits.fig (n / b ^ j % b) : Nat) : Int) = (((UInt8.ofNat (Digits.fig (Digits.dg b n j))).toNat : Nat) : Int) := by
        rw [Digits.fig_toNat (Digits.dg b n j) (Nat.lt_of_lt_of_le (Digits.dg_lt b n j hb) hb2)]; rfl
      rw [hft, show ((n / b ^ j % b : Nat) : Int) = ((n / b ^ j : Nat) : Int) % (b : Int) from by simp] at hfig
      have hle := Digits.le_succ b n j
      generalize UInt8.ofNat (Digits.fig (Digits.dg b n j)) = fg at *
      generalize Digits.le b n j = L0 at *
      have hNlt : n / b ^ j < 18446744073709551616 := Nat.lt_of_le_of_lt (Nat.div_le_self _ _) hn
      generalize n / b ^ j = N0 at *
      obtain ⟨q1, hq1⟩ : ∃ q : Bool, decide (0 < N0) = q := ⟨_, rfl⟩
      obtain ⟨q2, hq2⟩ : ∃ q : Bool, decide (j < wd) = q := ⟨_, rfl⟩
      obtain ⟨q3, hq3⟩ : ∃ q : Bool, ((j : Int) == 0) = q := ⟨_, rfl⟩
      have hany : q1 = true ∨ q1 = false ∧ q2 = true ∨ q1 = false ∧ q2 = false ∧ q3 = true := by
        cases q1 with
        | true => exact .inl rfl
        | false =>
          cases q2 with
          | true => exact .inr (.inl ⟨rfl, rfl⟩)
          | false =>
            cases q3 with
            | true => exact .inr (.inr ⟨rfl, rfl, rfl⟩)
            | false =>
              exfalso
              rw [decide_eq_false_iff_not] at hq1 hq2
              rw [beq_eq_false_iff_ne] at hq3
              exact hstop ⟨by omega, by omega⟩
      have HS := Lib.hid hstop; clear hstop
      have HD := Lib.hid hdiv; clear hdiv
      have HL := Lib.hid hle; clear hle
      clear hft
      have hbB : B ≤ wr.heap.size := by have := hbe.size; have := HB.out; omega
      rcases hany with rfl | ⟨rfl, rfl⟩ | ⟨rfl, rfl, rfl⟩
      · go_wp2_with (with_reducible refine wpList_push _ rfl _ _ 147 rfl B 5 (.int .u8 0) 1 1 Tryz.underlying147 infoU8 rfl (by decide) a j cap _ rfl HO.out [.int .u8 (fg.toNat : Int)] rfl (by simp [Value.oneCell']) rfl (by unfold maxLen; omega) (by omega) hbB ?_; intro a' cap' w' hown' hgrow hloc hsz' hex)
        go_roundw
        case rel =>
          refine ⟨j + 1, cap', a', by omega, val_int (by have := Nat.div_le_self N0 b; rw [IntKind.wrap_u64, ← Int.natCast_ediv, ← HD.out]; generalize N0 / b = q at *; omega), rfl, ?_, HN2, below_blk hbe HO.out (Nat.le_refl _) hbB hgrow⟩
          have he : bvals L0 ++ [Value.int .u8 (fg.toNat : Int)] = bvals (Digits.le b n (j + 1)) := by rw [HL.out]; simp [bvals, bval]
          rw [← he]; exact Lib.hid hown'
        case measure => simp [lenOf]; omega
      · go_wp2_with (with_reducible refine wpList_push _ rfl _ _ 147 rfl B 5 (.int .u8 0) 1 1 Tryz.underlying147 infoU8 rfl (by decide) a j cap _ rfl HO.out [.int .u8 (fg.toNat : Int)] rfl (by simp [Value.oneCell']) rfl (by unfold maxLen; omega) (by omega) hbB ?_; intro a' cap' w' hown' hgrow hloc hsz' hex)
        go_roundw
        case rel =>
          refine ⟨j + 1, cap', a', by omega, val_int (by have := Nat.div_le_self N0 b; rw [IntKind.wrap_u64, ← Int.natCast_ediv, ← HD.out]; generalize N0 / b = q at *; omega), rfl, ?_, HN2, below_blk hbe HO.out (Nat.le_refl _) hbB hgrow⟩
          have he : bvals L0 ++ [Value.int .u8 (fg.toNat : Int)] = bvals (Digits.le b n (j + 1)) := by rw [HL.out]; simp [bvals, bval]
          rw [← he]; exact Lib.hid hown'
        case measure => simp [lenOf]; omega
      · go_wp2_with (with_reducible refine wpList_push _ rfl _ _ 147 rfl B 5 (.int .u8 0) 1 1 Tryz.underlying147 infoU8 rfl (by decide) a j cap _ rfl HO.out [.int .u8 (fg.toNat : Int)] rfl (by simp [Value.oneCell']) rfl (by unfold maxLen; omega) (by omega) hbB ?_; intro a' cap' w' hown' hgrow hloc hsz' hex)
        go_roundw
        case rel =>
          refine ⟨j + 1, cap', a', by omega, val_int (by have := Nat.div_le_self N0 b; rw [IntKind.wrap_u64, ← Int.natCast_ediv, ← HD.out]; generalize N0 / b = q at *; omega), rfl, ?_, HN2, below_blk hbe HO.out (Nat.le_refl _) hbB hgrow⟩
          have he : bvals L0 ++ [Value.int .u8 (fg.toNat : Int)] = bvals (Digits.le b n (j + 1)) := by rw [HL.out]; simp [bvals, bval]
          rw [← he]; exact Lib.hid hown'
        case measure => simp [lenOf]; omega
end Go.Proofs.YtlomecfhobehnaaGreatDoor
end
section
/- A number's text, in plain words: what it is read as, and how it is written. -/
namespace Go.Proofs.YtlomecfhobehnaaGreatDoor
set_option linter.unusedVariables false
set_option linter.unusedSimpArgs false
namespace Num
open Digits
def val (b : Nat) (l : List UInt8) : Nat := l.foldl (fun acc c => acc * b + (Keys.dig c.toNat).toNat) 0
theorem val_snoc (b : Nat) (l : List UInt8) (c : UInt8) : val b (l ++ [c]) = val b l * b + (Keys.dig c.toNat).toNat := by simp [val]
theorem val_take (b : Nat) (l : List UInt8) (i : Nat) (h : i < l.length) : val b (l.take (i + 1)) = val b (l.take i) * b + (Keys.dig (l.getD i 0).toNat).toNat := by
  rw [List.take_succ_eq_append_getElem h, val_snoc, List.getD_eq_getElem?_getD, List.getElem?_eq_getElem h]
  rfl
theorem val_mono (b : Nat) (l : List UInt8) (hb : 1 ≤ b) : ∀ k i, i + k = l.length → val b (l.take i) ≤ val b l
  | 0, i, h => by rw [List.take_of_length_le (by omega)]; exact Nat.le_refl _
  | k + 1, i, h => by
    have h1 := val_mono b l hb k (i + 1) (by omega)
    rw [val_take b l i (by omega)] at h1
    have : val b (l.take i) ≤ val b (l.take i) * b := Nat.le_mul_of_pos_right _ hb
    omega
theorem val_from (b : Nat) (l : List UInt8) : ∀ a, l.foldl (fun v c => v * b + (Keys.dig c.toNat).toNat) a = a * b ^ l.length + l.foldl (fun v c => v * b + (Keys.dig c.toNat).toNat) 0 := by
  induction l with
  | nil => intro a; simp
  | cons c l ih =>
    intro a
    rw [List.foldl_cons, List.foldl_cons, ih, ih (0 * b + _), List.length_cons, Nat.pow_succ, Nat.zero_mul, Nat.zero_add, Nat.add_mul, Nat.add_assoc]
    congr 1
    rw [Nat.mul_assoc, Nat.mul_comm b]
theorem val_cons (b : Nat) (c : UInt8) (l : List UInt8) : val b (c :: l) = (Keys.dig c.toNat).toNat * b ^ l.length + val b l := by
  have h := val_from b l (0 * b + (Keys.dig c.toNat).toNat)
  rw [Nat.zero_mul, Nat.zero_add] at h
  unfold val
  rw [List.foldl_cons, Nat.zero_mul, Nat.zero_add, h]
theorem ds_succ' (b n j : Nat) : ds b n (j + 1) = UInt8.ofNat (fig (dg b n j)) :: ds b n j := by simp [ds, List.range_succ]
theorem dig_figN : ∀ d : Fin 16, Keys.dig (UInt8.ofNat (fig d)).toNat = ((d : Nat) : Int) := by decide
theorem val_ds (b n : Nat) (hb : 2 ≤ b) (hb2 : b ≤ 16) : ∀ j, val b (ds b n j) = n % b ^ j := by
  intro j
  induction j with
  | zero => simp [ds, val, Nat.mod_one]
  | succ j ih =>
    have hd := dig_figN ⟨dg b n j, Nat.lt_of_lt_of_le (dg_lt b n j hb) hb2⟩
    simp only at hd
    rw [ds_succ', val_cons, ih, ds_length, Nat.pow_succ, Nat.mod_mul, hd]
    simp only [Int.toNat_natCast, dg]
    rw [Nat.mul_comm (n / b ^ j % b), Nat.add_comm]
/-- what digits of a base are read as: the number, or which error -/
def okDig (b : Nat) (c : UInt8) : Bool := decide (0 ≤ Keys.dig c.toNat) && decide (Keys.dig c.toNat < (b : Int))
def parseOf (b : Nat) (t : List UInt8) : Nat ⊕ Nat :=
  if t = [] then .inr 3 else if t.all (okDig b) = true then (if val b t < 18446744073709551616 then .inl (val b t) else .inr 2) else .inr 3
def baseOf : List UInt8 → Nat
  | 48 :: 120 :: _ => 16
  | 48 :: 98 :: _ => 2
  | _ => 10
def restOf : List UInt8 → List UInt8
  | 48 :: 120 :: r => r
  | 48 :: 98 :: r => r
  | s => s
def numOf (s : List UInt8) : Nat ⊕ Nat := match parseOf (baseOf s) (restOf s) with
  | .inr e => .inr e
  | .inl n => if n < 9223372036854775808 then .inl n else .inr 2
theorem numOf_lt {s : List UInt8} {n : Nat} (h : numOf s = .inl n) : n < 9223372036854775808 := by
  unfold numOf at h
  split at h
  · cases h
  · split at h
    · cases h; assumption
    · cases h
/-- how many digits a number has -/
def wdt (n : Nat) : Nat := ((List.range 25).find? fun j => decide (1 ≤ j) && decide (n < 10 ^ j)).getD 0
theorem wdt_wide (n : Nat) (hn : n < 18446744073709551616) : Wide 10 n 1 (wdt n) := by
  unfold wdt
  cases h : (List.range 25).find? (fun j => decide (1 ≤ j) && decide (n < 10 ^ j)) with
  | none =>
    rw [List.find?_eq_none] at h
    have := h 20 (by simp)
    simp at this
    omega
  | some j =>
    rw [List.find?_eq_some_iff_getElem] at h
    obtain ⟨h1, i, hi, he, h2⟩ := h
    simp only [List.length_range] at hi
    rw [List.getElem_range] at he
    subst he
    simp only [Bool.and_eq_true, decide_eq_true_eq] at h1
    refine ⟨h1.1, h1.2, fun k hk hn => Nat.le_of_not_lt fun hlt => ?_⟩
    have := h2 k hlt
    rw [List.getElem_range] at this
    simp [hk, hn] at this
def dec (n : Nat) : List UInt8 := ds 10 n (wdt n)
theorem dec_digits (n : Nat) : ∀ c ∈ dec n, okDig 10 c = true ∧ 48 ≤ c.toNat ∧ c.toNat ≤ 57 := by
  intro c hc
  unfold dec ds at hc
  rw [List.mem_reverse, List.mem_map] at hc
  obtain ⟨i, _, rfl⟩ := hc
  have hd := dg_lt 10 n i (by decide)
  exact (by decide : ∀ d : Fin 10, okDig 10 (UInt8.ofNat (fig d)) = true ∧ 48 ≤ (UInt8.ofNat (fig d)).toNat ∧ (UInt8.ofNat (fig d)).toNat ≤ 57) ⟨_, hd⟩
theorem dec_val (n : Nat) (hn : n < 18446744073709551616) : val 10 (dec n) = n := by
  unfold dec
  rw [val_ds 10 n (by decide) (by decide), Nat.mod_eq_of_lt (wdt_wide n hn).2.1]
theorem dec_ne (n : Nat) (hn : n < 18446744073709551616) : dec n ≠ [] := by
  intro e
  have := congrArg List.length e
  rw [dec, ds_length, List.length_nil] at this
  have := (wdt_wide n hn).1
  omega
theorem dec_plain (n : Nat) (hn : n < 18446744073709551616) : baseOf (dec n) = 10 ∧ restOf (dec n) = dec n := by
  have hd := dec_digits n
  have key : ∀ (l : List UInt8), (∀ c ∈ l, 48 ≤ c.toNat ∧ c.toNat ≤ 57) → baseOf l = 10 ∧ restOf l = l := by
    intro l hl
    unfold baseOf restOf
    split
    · have := (hl 120 (by simp)).2; exact absurd this (by decide)
    · have := (hl 98 (by simp)).2; exact absurd this (by decide)
    · exact ⟨rfl, rfl⟩
  exact key _ fun c hc => (hd c hc).2
theorem numOf_dec (n : Nat) (hn : n < 9223372036854775808) : numOf (dec n) = .inl n := by
  obtain ⟨h1, h2⟩ := dec_plain n (by omega)
  unfold numOf parseOf
  rw [h1, h2, if_neg (dec_ne n (by omega)), if_pos (List.all_eq_true.2 fun c hc => (dec_digits n c hc).1), dec_val n (by omega), if_pos (by omega)]
  simp [hn]
end Num
end Go.Proofs.YtlomecfhobehnaaGreatDoor
end
