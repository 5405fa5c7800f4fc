/- Contract of slices.Equal at []int. -/
import Derived.Test.YtkahceijhokmoaaChecked
import Derived.Test.YtkahceijhokmoaaOwn
namespace Go.Proofs.Ytkahceijhokmoaa
open Go.RowKit
set_option linter.unusedVariables false
set_option linter.unusedSimpArgs false
theorem Equal_len (a b : Option Addr) (n m c d : Nat) (w : World) (h : n ≠ m) :
    Calls Try.prog 10 #[.slice a n c, .slice b m d] w fun e w' => e = .returned (.bool false) ∧ w = w' := by
  have hne : ((n : Int) != (m : Int)) = true := by rw [bne_iff_ne]; omega
  go_enter Try.func10, Try.ntmps10
  go_wp2_with fail
  go_ret
  exact ⟨rfl, rfl⟩
set_option maxRecDepth 100000 in
theorem Equal_same (a b : Option Addr) (n c d : Nat) (L M : List Int) (w : World) (hL : L.length = n) (hM : M.length = n) (hn : n ≤ 4611686018427387904) (ha : ReadsI w a L) (hb : ReadsI w b M) :
    Calls Try.prog 10 #[.slice a n c, .slice b n d] w fun e w' => e = .returned (.bool (decide (L = M))) ∧ ∃ k, w' = w.drewN k := by
  have HL := Lib.hid hL; clear hL
  have HM := Lib.hid hM; clear hM
  have HA := Lib.hid ha; clear ha
  have HB := Lib.hid hb; clear hb
  have hnn : ((n : Int) != (n : Int)) = false := by simp
  go_enter Try.func10, Try.ntmps10
  go_wp2_with fail
  go_loopw [13] (fun i wr => ∃ k : Nat, k ≤ n ∧ i = .int .i64 k ∧ Hid (∀ j, j < k → L.getD j 0 = M.getD j 0) ∧ ∃ q, Hid (wr = w.drewN q)) (fun i _ => n - (intOf i).toNat)
  case atStart => exact ⟨0, by omega, rfl, fun j hj => by omega, 0, rfl⟩
  case round =>
    obtain ⟨k, hk, rfl, HP, q, hw⟩ := hrel
    obtain rfl := hw.out
    by_cases hlt : k < n
    · obtain ⟨g, off, rfl, hc⟩ := HA.out.pos (by rw [HL.out]; omega)
      obtain ⟨g', off', rfl, hc'⟩ := HB.out.pos (by rw [HM.out]; omega)
      have hc1 := hc k (by rw [HL.out]; omega)
      have hc2 := hc' k (by rw [HM.out]; omega)
      clear hc hc'
      have hki : (k : Int) < (n : Int) := by omega
      generalize hx : L.getD k 0 = x at *
      generalize hy : M.getD k 0 = y at *
      have HX := Lib.hid hx; clear hx
      have HY := Lib.hid hy; clear hy
      by_cases hxy : x = y
      · have hb : (x != y) = false := by simp [hxy]
        have HXY := Lib.hid hxy; clear hxy
        go_wp2_with fail
        go_quiet (fail)
        go_wp2_with fail
        go_roundw
        case rel =>
          refine ⟨k + 1, by omega, by go_num, ?_, _, rfl⟩
          intro j hj
          rcases Nat.lt_or_ge j k with h | h
          · exact HP.out j h
          · obtain rfl : j = k := by omega
            rw [HX.out, HY.out, HXY.out]
        case measure => simp [intOf]; omega
      · have hb : (x != y) = true := by simpa using hxy
        have HXY := Lib.hid hxy; clear hxy
        go_wp2_with fail
        go_quiet (fail)
        go_wp2_with fail
        go_ret
        refine ⟨ret_bool ?_, _, World.drewN_drewN _ _ _⟩
        symm
        rw [decide_eq_false_iff_not]
        intro h
        subst h
        exact HXY.out (HX.out.symm.trans HY.out)
    · obtain rfl : k = n := by omega
      have hd : decide ((k : Int) < (k : Int)) = false := by simp
      go_wp2_with fail
      go_ret
      refine ⟨ret_bool ?_, _, rfl⟩
      symm
      rw [decide_eq_true_eq]
      exact list_ext_getD (by rw [HL.out, HM.out]) (fun i hi => HP.out i (by rw [HL.out] at hi; exact hi))
/-- whatever their lengths -/
theorem Equal_any (a b : Option Addr) (n m c d : Nat) (L M : List Int) (w : World) (hL : L.length = n) (hM : M.length = m) (hn : n ≤ 4611686018427387904) (ha : ReadsI w a L) (hb : ReadsI w b M) :
    Calls Try.prog 10 #[.slice a n c, .slice b m d] w fun e w' => e = .returned (.bool (decide (L = M))) ∧ ∃ k, w' = w.drewN k := by
  by_cases h : n = m
  · subst h; exact Equal_same a b n c d L M w hL hM hn ha hb
  · refine (Equal_len a b n m c d w h).mono ?_
    rintro e w' ⟨rfl, rfl⟩
    refine ⟨ret_bool ?_, 0, rfl⟩
    symm
    rw [decide_eq_false_iff_not]
    intro hh
    subst hh
    omega
theorem Equal_yes (a b : Option Addr) (n m c d : Nat) (L : List Int) (w : World) (hL : L.length = n) (hm : m = n) (hn : n ≤ 4611686018427387904) (ha : ReadsI w a L) (hb : ReadsI w b L) :
    Calls Try.prog 10 #[.slice a n c, .slice b m d] w fun e w' => e = .returned (.bool true) ∧ ∃ k, w' = w.drewN k := by
  subst hm
  refine (Equal_same a b m c d L L w hL hL hn ha hb).mono ?_
  rintro e w' ⟨rfl, h⟩
  exact ⟨ret_bool (by simp), h⟩
end Go.Proofs.Ytkahceijhokmoaa
