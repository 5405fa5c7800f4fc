/- Contracts of slices.Index and slices.Contains at []int. -/
import Derived.Test.YtdjddiajnalffaaChecked
import Derived.Test.YtdjddiajnalffaaOwn
namespace Go.Proofs.Ytdjddiajnalffaa
open Go.RowKit
set_option linter.unusedVariables false
set_option linter.unusedSimpArgs false
set_option maxRecDepth 100000 in
theorem Index_any (a : Option Addr) (n c : Nat) (L : List Int) (x : Int) (w : World) (hL : L.length = n) (hn : n ≤ 4611686018427387904) (ha : ReadsI w a L) :
    Calls Try.prog 58 #[.slice a n c, .int .i64 x] w fun e w' => ∃ r : Int, e = .returned (.int .i64 r) ∧ w = w' ∧ -1 ≤ r ∧ r < n ∧ (0 ≤ r ↔ x ∈ L) := by
  have HL := Lib.hid hL; clear hL
  have HA := Lib.hid ha; clear ha
  go_enter Try.func58, Try.ntmps58
  go_wp2_with fail
  go_loop [8] (fun i => ∃ k : Nat, k ≤ n ∧ i = .int .i64 k ∧ Hid (∀ j, j < k → L.getD j 0 ≠ x)) (fun i => n - (intOf i).toNat)
  case atStart => exact ⟨0, by omega, rfl, fun j hj => by omega⟩
  case round =>
    obtain ⟨k, hk, rfl, HP⟩ := hrel
    by_cases hlt : k < n
    · obtain ⟨g, off, rfl, hc⟩ := HA.out.pos (by rw [HL.out]; omega)
      have hc1 := hc k (by rw [HL.out]; omega)
      clear hc
      have hki : (k : Int) < (n : Int) := by omega
      generalize hx : L.getD k 0 = y at *
      have HX := Lib.hid hx; clear hx
      by_cases hxy : x = y
      · have hb : (x == y) = true := by simp [hxy]
        have HXY := Lib.hid hxy; clear hxy
        go_wp2_with fail
        go_ret
        refine ⟨k, rfl, rfl, by omega, by omega, ⟨fun _ => ?_, fun _ => by omega⟩⟩
        rw [HXY.out, ← HX.out, List.getD_eq_getElem?_getD, List.getElem?_eq_getElem (by rw [HL.out]; exact hlt)]
        exact List.getElem_mem _
      · have hb : (x == y) = false := by simpa using hxy
        have HXY := Lib.hid hxy; clear hxy
        go_wp2_with fail
        go_round
        case rel =>
          refine ⟨k + 1, by omega, by go_num, ?_⟩
          intro j hj
          rcases Nat.lt_or_ge j k with h | h
          · exact HP.out j h
          · obtain rfl : j = k := by omega
            rw [HX.out]
            exact fun h => HXY.out h.symm
        case measure => simp [intOf]; omega
    · obtain rfl : k = n := by omega
      have hd : decide ((k : Int) < (k : Int)) = false := by simp
      go_wp2_with fail
      go_ret
      refine ⟨-1, rfl, rfl, by omega, by omega, ⟨fun h => by omega, fun h => ?_⟩⟩
      obtain ⟨i, hi, he⟩ := List.getElem_of_mem h
      have := HP.out i (by rw [HL.out] at hi; exact hi)
      rw [List.getD_eq_getElem?_getD, List.getElem?_eq_getElem hi] at this
      exact absurd he this
theorem Contains_any (a : Option Addr) (n c : Nat) (L : List Int) (x : Int) (w : World) (hL : L.length = n) (hn : n ≤ 4611686018427387904) (ha : ReadsI w a L) :
    Calls Try.prog 34 #[.slice a n c, .int .i64 x] w fun e w' => e = .returned (.bool (decide (x ∈ L))) ∧ w = w' := by
  go_enter Try.func34, Try.ntmps34
  go_wp2_with fail
  refine (Index_any a n c L x _ hL hn ha).mono ?_
  rintro e w1 ⟨r, rfl, rfl, h1, h2, h3⟩
  have H3 := Lib.hid h3; clear h3
  clear ha
  go_wp2_with fail
  go_ret
  refine ⟨ret_bool ?_, rfl⟩
  rw [decide_eq_decide]
  exact H3.out
end Go.Proofs.Ytdjddiajnalffaa
