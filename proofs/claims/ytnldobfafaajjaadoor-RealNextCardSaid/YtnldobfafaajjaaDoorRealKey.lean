/- Contract of real.Key; reals of 64 bits out of their bits. -/
import Derived.Test.YtnldobfafaajjaaDoorRealC
import Derived.Test.YtnldobfafaajjaaDoorPlainReal
import Derived.Laws.Externs
import Derived.Laws.Cover2
namespace Go.Proofs.YtnldobfafaajjaaDoor
open Go.RowKit
set_option linter.unusedVariables false
set_option linter.unusedSimpArgs false
theorem f64from (b : Nat) (w : World) : (callFunc 33 #[.int .u64 (b : Int)]).run Tryd.prog w = .ok (.value (.float .f64 b)) w := by
  rw [run_callFunc_extern (P := Tryd.prog) (fn := Tryd.f33) (e := Extern.MathFloatBits.float64frombits) (by kernel_rfl) (by kernel_rfl) (by kernel_rfl) (by kernel_rfl) (by kernel_rfl)]
  rfl
theorem n64_bits (a b : Nat) (ha : a < 18446744073709551616) (hb : b < 18446744073709551616) : bits .and .u64 (a : Int) (b : Int) = ((a &&& b : Nat) : Int) ∧ bits .or .u64 (a : Int) (b : Int) = ((a ||| b : Nat) : Int) := by
  have h := bits_nat .u64 64 (by decide) (fun n h0 h1 => by rw [IntKind.wrap_u64]; omega) a b (by omega) (by omega)
  exact h
theorem key_form (b : Nat) (hb : b < 18446744073709551616) :
    bits .and .u64 (b : Int) 9223372036854775807 = ((RealO.rung b : Nat) : Int) ∧ (decide ((0 : Int) < bits .and .u64 (b : Int) 9223372036854775808)) = RealO.negW b := by
  have h1 := (n64_bits b 9223372036854775807 hb (by decide)).1
  have h2 := (n64_bits b 9223372036854775808 hb (by decide)).1
  have e1 : b &&& 9223372036854775807 = b % 2 ^ 63 := Nat.and_two_pow_sub_one_eq_mod b 63
  constructor
  · rw [e1] at h1; exact h1
  · rw [show ((9223372036854775808 : Nat) : Int) = 9223372036854775808 from rfl] at h2
    rw [h2]
    unfold RealO.negW
    have e2 : b &&& 9223372036854775808 = b / 2 ^ 63 % 2 * 2 ^ 63 := by
      apply Nat.eq_of_testBit_eq
      intro i
      rw [Nat.testBit_and, show (9223372036854775808 : Nat) = 2 ^ 63 from rfl, Nat.testBit_two_pow, Nat.testBit_mul_two_pow]
      by_cases h : 63 = i
      · subst h
        simp [Nat.testBit_eq_decide_div_mod_eq]
      · by_cases h3 : i < 63
        · simp [h, show ¬ i ≥ 63 from by omega]
        · have : (b / 2 ^ 63 % 2).testBit (i - 63) = false := by
            have h4 : b / 2 ^ 63 % 2 < 2 ^ (i - 63) := by
              have h5 : 2 ^ 1 ≤ 2 ^ (i - 63) := Nat.pow_le_pow_right (by decide) (by omega)
              have := Nat.mod_lt (b / 2 ^ 63) (show 2 > 0 by decide)
              omega
            exact Nat.testBit_lt_two_pow h4
          simp [h, this]
    rw [e2, Bool.eq_iff_iff]
    simp only [decide_eq_true_eq, beq_iff_eq]
    omega
set_option maxRecDepth 100000 in
theorem Key_64 (b : Nat) (w : World) (hb : b < 18446744073709551616) : Calls Tryd.prog 32 #[.int .u64 (b : Nat), .int .i64 64] w fun e w' => e = .returned (.tuple #[.int .i64 (RealO.key b), .nilIface]) ∧ Below w.heap.size w w' := by
  obtain ⟨h1, h2⟩ := key_form b hb
  have hr : RealO.rung b < 9223372036854775808 := Nat.mod_lt _ (by decide)
  go_enter Tryd.func32, Tryd.ntmps32
  go_wp2_with fail
  refine (form_64 _).mono ?_
  rintro e w1 ⟨rfl, hb1⟩
  go_wp2_with fail
  all_goals
    go_ret2
    refine ⟨?_, hb1⟩
    unfold RealO.key
    rw [‹RealO.negW b = _›]
    rfl
end Go.Proofs.YtnldobfafaajjaaDoor
