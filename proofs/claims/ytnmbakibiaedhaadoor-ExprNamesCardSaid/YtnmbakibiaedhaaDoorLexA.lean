/- Contracts of package lex: letter, digit, next. -/
import Derived.Test.YtnmbakibiaedhaaDoorChecked
import Derived.Test.YtnmbakibiaedhaaDoorPlainLex
import Derived.Test.YtnmbakibiaedhaaDoorOwn
namespace Go.Proofs.YtnmbakibiaedhaaDoor
open Go.RowKit
set_option linter.unusedVariables false
set_option linter.unusedSimpArgs false
set_option maxRecDepth 100000 in
theorem letter_any (n : Nat) (hn : n < 256) (w : World) : Calls Tryd.prog 47 #[.int .u8 (n : Nat)] w fun e w' => e = .returned (.bool (Lex.letter n)) ∧ w = w' := by
  obtain ⟨b, hb⟩ : ∃ b, b = Lex.letter n := ⟨_, rfl⟩
  rw [← hb]
  have HB := Lib.hid hb; clear hb
  by_cases k1 : 97 ≤ n
  · have d1 : decide ((97 : Int) ≤ (n : Int)) = true := by rw [decide_eq_true_eq]; omega
    by_cases k2 : n ≤ 122
    · have d2 : decide ((n : Int) ≤ 122) = true := by rw [decide_eq_true_eq]; omega
      have hr : b = true := by rw [HB.out]; simp [Lex.letter]; omega
      subst hr
      go_enter Tryd.func47, Tryd.ntmps47
      go_wp2_with fail
      go_ret
      exact ⟨rfl, rfl⟩
    · have d2 : decide ((n : Int) ≤ 122) = false := by rw [decide_eq_false_iff_not]; omega
      have d3 : decide ((65 : Int) ≤ (n : Int)) = true := by rw [decide_eq_true_eq]; omega
      have d4 : decide ((n : Int) ≤ 90) = false := by rw [decide_eq_false_iff_not]; omega
      have d5 : ((n : Int) == 95) = false := by rw [beq_eq_false_iff_ne]; omega
      have hr : b = false := by rw [HB.out]; simp [Lex.letter]; omega
      subst hr
      go_enter Tryd.func47, Tryd.ntmps47
      go_wp2_with fail
      go_ret
      exact ⟨rfl, rfl⟩
  · have d1 : decide ((97 : Int) ≤ (n : Int)) = false := by rw [decide_eq_false_iff_not]; omega
    by_cases k3 : 65 ≤ n
    · have d3 : decide ((65 : Int) ≤ (n : Int)) = true := by rw [decide_eq_true_eq]; omega
      by_cases k4 : n ≤ 90
      · have d4 : decide ((n : Int) ≤ 90) = true := by rw [decide_eq_true_eq]; omega
        have hr : b = true := by rw [HB.out]; simp [Lex.letter]; omega
        subst hr
        go_enter Tryd.func47, Tryd.ntmps47
        go_wp2_with fail
        go_ret
        exact ⟨rfl, rfl⟩
      · have d4 : decide ((n : Int) ≤ 90) = false := by rw [decide_eq_false_iff_not]; omega
        by_cases k5 : n = 95
        · have d5 : ((n : Int) == 95) = true := by rw [beq_iff_eq]; omega
          have hr : b = true := by rw [HB.out]; simp [Lex.letter]; omega
          subst hr
          have K5 := Lib.hid k5; clear k5
          go_enter Tryd.func47, Tryd.ntmps47
          go_wp2_with fail
          go_ret
          exact ⟨rfl, rfl⟩
        · have d5 : ((n : Int) == 95) = false := by rw [beq_eq_false_iff_ne]; omega
          have hr : b = false := by rw [HB.out]; simp [Lex.letter]; omega
          subst hr
          go_enter Tryd.func47, Tryd.ntmps47
          go_wp2_with fail
          go_ret
          exact ⟨rfl, rfl⟩
    · have d3 : decide ((65 : Int) ≤ (n : Int)) = false := by rw [decide_eq_false_iff_not]; omega
      have d5 : ((n : Int) == 95) = false := by rw [beq_eq_false_iff_ne]; omega
      have hr : b = false := by rw [HB.out]; simp [Lex.letter]; omega
      subst hr
      go_enter Tryd.func47, Tryd.ntmps47
      go_wp2_with fail
      go_ret
      exact ⟨rfl, rfl⟩
theorem digit_any (n : Nat) (hn : n < 256) (w : World) : Calls Tryd.prog 82 #[.int .u8 (n : Nat)] w fun e w' => e = .returned (.bool (Lex.digit n)) ∧ w = w' := by
  obtain ⟨b, hb⟩ : ∃ b, b = Lex.digit n := ⟨_, rfl⟩
  rw [← hb]
  have HB := Lib.hid hb; clear hb
  by_cases k1 : 48 ≤ n
  · have d1 : decide ((48 : Int) ≤ (n : Int)) = true := by rw [decide_eq_true_eq]; omega
    by_cases k2 : n ≤ 57
    · have d2 : decide ((n : Int) ≤ 57) = true := by rw [decide_eq_true_eq]; omega
      have hr : b = true := by rw [HB.out]; simp [Lex.digit]; omega
      subst hr
      go_enter Tryd.func82, Tryd.ntmps82
      go_wp2_with fail
      go_ret
      exact ⟨rfl, rfl⟩
    · have d2 : decide ((n : Int) ≤ 57) = false := by rw [decide_eq_false_iff_not]; omega
      have hr : b = false := by rw [HB.out]; simp [Lex.digit]; omega
      subst hr
      go_enter Tryd.func82, Tryd.ntmps82
      go_wp2_with fail
      go_ret
      exact ⟨rfl, rfl⟩
  · have d1 : decide ((48 : Int) ≤ (n : Int)) = false := by rw [decide_eq_false_iff_not]; omega
    have hr : b = false := by rw [HB.out]; simp [Lex.digit]; omega
    subst hr
    go_enter Tryd.func82, Tryd.ntmps82
    go_wp2_with fail
    go_ret
    exact ⟨rfl, rfl⟩
end Go.Proofs.YtnmbakibiaedhaaDoor
