/- Contract of slices.IsSorted at []int, of numbers that are in order. -/
import Derived.Test.YtlpockgofejogaaChecked
import Derived.Test.YtlpockgofejogaaOwn
namespace Go.Proofs.Ytlpockgofejogaa
open Go.RowKit
set_option linter.unusedVariables false
set_option linter.unusedSimpArgs false
theorem isNaN_int (x : Int) (w : World) : Calls Try.prog 76 #[.int .i64 x] w fun e w' => e = .returned (.bool false) ∧ w = w' := by
  go_enter Try.func76, Try.ntmps76
  go_wp2_with fail
  go_ret
  exact ⟨ret_bool (by simp), rfl⟩
theorem Less_no (x y : Int) (w : World) (h : y ≤ x) : Calls Try.prog 70 #[.int .i64 x, .int .i64 y] w fun e w' => e = .returned (.bool false) ∧ w = w' := by
  have hd : decide (x < y) = false := by rw [decide_eq_false_iff_not]; omega
  go_enter Try.func70, Try.ntmps70
  go_wp2_with fail
  refine (isNaN_int x _).mono ?_
  rintro e w1 ⟨rfl, rfl⟩
  go_wp2_with fail
  go_ret
  exact ⟨rfl, rfl⟩
set_option maxRecDepth 100000 in
theorem IsSorted_yes (a : Option Addr) (n c : Nat) (L : List Int) (w : World) (hL : L.length = n) (hn : n ≤ 4611686018427387904) (ha : ReadsI w a L) (hs : ∀ i, i + 1 < n → L.getD i 0 ≤ L.getD (i + 1) 0) :
    Calls Try.prog 49 #[.slice a n c] w fun e w' => e = .returned (.bool true) ∧ ∃ k, w' = w.drewN k := by
  have HL := Lib.hid hL; clear hL
  have HA := Lib.hid ha; clear ha
  have HS := Lib.hid hs; clear hs
  go_enter Try.func49, Try.ntmps49
  go_wp2_with fail
  go_loopw [3] (fun i wr => ∃ k : Int, k + 1 ≤ n ∧ -1 ≤ k ∧ i = .int .i64 k ∧ ∃ q, Hid (wr = w.drewN q)) (fun i _ => (intOf i).toNat)
  case atStart => exact ⟨(n : Int) - 1, by omega, by omega, by go_num, 0, rfl⟩
  case round =>
    obtain ⟨k, hk, hk1, rfl, q, hw⟩ := hrel
    by_cases hlt : 0 < k
    · have hA' : ReadsI wr a L := by rw [hw.out]; exact HA.out.drewN q
      obtain ⟨g, off, rfl, hc⟩ := hA'.pos (by rw [HL.out]; omega)
      clear hA'
      obtain ⟨j, rfl⟩ : ∃ j : Nat, k = (j : Int) + 1 := ⟨(k - 1).toNat, by omega⟩
      have hc1 := hc j (by rw [HL.out]; omega)
      have hc2 := hc (j + 1) (by rw [HL.out]; omega)
      have hle := HS.out j (by omega)
      clear hc
      generalize L.getD j 0 = x at *
      generalize L.getD (j + 1) 0 = y at *
      have hno := fun w => turn (Less_no y x w hle)
      have HNO := Lib.hid hno; clear hno
      have hjn : (j : Int) + 1 < (n : Int) := by omega
      have hj0 : (0 : Int) ≤ (j : Int) + 1 := by omega
      have ht : ((j : Int) + 1).toNat = j + 1 := by omega
      have hwj : IntKind.i64.wrap (j : Int) = (j : Int) := IntWalk.i64_in _ ⟨by omega, by omega⟩
      have hjn2 : (j : Int) < (n : Int) := by omega
      have hj00 : (0 : Int) ≤ (j : Int) := by omega
      go_wp2_with fail
      go_quiet (first | (go_at_call 70; with_reducible exact Calls.quiet_of_same (HNO.out _)))
      go_wp2_with fail
      go_roundw
      case rel => exact ⟨j, by omega, by omega, by go_num, q + nq, by have := hw.out; subst this; exact World.drewN_drewN _ _ _⟩
      case measure => simp [intOf]
    · go_wp2_with fail
      go_ret
      exact ⟨rfl, q, hw.out⟩
end Go.Proofs.Ytlpockgofejogaa
