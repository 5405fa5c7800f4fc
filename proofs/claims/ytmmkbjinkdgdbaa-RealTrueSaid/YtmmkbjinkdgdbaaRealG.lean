/- Contract of package real: Narrow, the cases without rounding. -/
import Derived.Test.YtmmkbjinkdgdbaaRealD
namespace Go.Proofs.Ytmmkbjinkdgdbaa
open Go.RowKit
set_option linter.unusedVariables false
set_option linter.unusedSimpArgs false
theorem sign_form (b : Nat) (hb : b < 18446744073709551616) : ∃ N S : Nat, b / 2 ^ 63 % 2 = N ∧ N < 2 ∧ S = N * 2 ^ 31 ∧ (b : Int) / 9223372036854775808 = (N : Int) ∧ IntKind.u64.wrap ((N : Int) * 2147483648) = (S : Int) ∧ IntKind.u32.wrap (S : Int) = (S : Int) := by
  refine ⟨b / 2 ^ 63 % 2, b / 2 ^ 63 % 2 * 2 ^ 31, rfl, Nat.mod_lt _ (by decide), rfl, by omega, ?_, ?_⟩
  · rw [show ((b / 2 ^ 63 % 2 : Nat) : Int) * 2147483648 = ((b / 2 ^ 63 % 2 * 2 ^ 31 : Nat) : Int) by omega]; exact IntWalk.u64_in _ ⟨by omega, by omega⟩
  · exact IntWalk.u32_in _ ⟨by omega, by omega⟩
set_option maxRecDepth 100000 in
theorem Narrow_low (b : Nat) (w : World) (hb : b < 18446744073709551616) (hE : b / 2 ^ 52 % 2 ^ 11 < 800) : Calls Try.prog 37 #[.int .u64 b] w fun e w' =>
    e = .returned (.int .u32 (b / 2 ^ 63 % 2 * 2 ^ 31 : Nat)) ∧ Below w.heap.size w w' := by
  have hap := fun w => Apart_64 b w hb
  obtain ⟨N, S, hN, hN2, hS, hs0, hs1, hs2⟩ := sign_form b hb
  rw [hN] at hap ⊢
  rw [← hS]
  clear hS hN
  generalize b / 2 ^ 52 % 2 ^ 11 = E at *
  generalize b % 2 ^ 52 = F at *
  unfold rval at hap
  have HAP := Lib.hid hap; clear hap
  have hq1 : ((E : Int) == 2047) = false := by rw [beq_eq_false_iff_ne]; omega
  have hq2 : (E : Int) < 800 := by omega
  clear hE hb
  go_enter Try.func37, Try.ntmps37
  go_wp2_with fail
  refine (HAP.out _).mono ?_
  rintro e w1 ⟨rfl, hb1⟩
  go_wp2_with fail
  go_ret
  exact ⟨rfl, hb1.alloc hb1.size _⟩
set_option maxRecDepth 100000 in
theorem Narrow_inf (b : Nat) (w : World) (hb : b < 18446744073709551616) (hE : b / 2 ^ 52 % 2 ^ 11 = 2047) (hF : b % 2 ^ 52 = 0) : Calls Try.prog 37 #[.int .u64 b] w fun e w' =>
    e = .returned (.int .u32 (b / 2 ^ 63 % 2 * 2 ^ 31 + 2139095040 : Nat)) ∧ Below w.heap.size w w' := by
  have hap := fun w => Apart_64 b w hb
  obtain ⟨N, S, hN, hN2, hS, hs0, hs1, hs2⟩ := sign_form b hb
  rw [hN, hE, hF] at hap
  rw [hN, ← hS]
  have hor : bits .or .u32 (S : Int) 2139095040 = ((S + 2139095040 : Nat) : Int) := by
    have := u32_or_nat S 2139095040 (by omega) (by decide)
    rw [nat_join 31 _ _ (by rw [hS]; simp) (by decide)] at this
    exact this
  obtain ⟨R, hR⟩ : ∃ R, R = S + 2139095040 := ⟨_, rfl⟩
  rw [← hR] at hor ⊢
  clear hS hN hE hF hR hb
  unfold rval at hap
  have HAP := Lib.hid hap; clear hap
  go_enter Try.func37, Try.ntmps37
  go_wp2_with fail
  refine (HAP.out _).mono ?_
  rintro e w1 ⟨rfl, hb1⟩
  go_wp2_with fail
  go_ret
  exact ⟨rfl, hb1.alloc hb1.size _⟩
theorem nan_join (N Q : Nat) (hN : N < 2) (hQ : Q < 2 ^ 23) : (N * 2 ^ 31 + 2143289344 ||| Q) = N * 2 ^ 31 + 2139095040 + (4194304 ||| Q) := by
  have hx : (4194304 ||| Q) < 2 ^ 23 := Nat.or_lt_two_pow (by decide) hQ
  have e1 : N * 2 ^ 31 + 2143289344 = (N * 2 ^ 31 + 2139095040) ||| 4194304 := by
    have h := nat_join 23 (N * 2 ^ 31 + 2139095040) 4194304 (by omega) (by decide)
    omega
  rw [e1, Nat.or_assoc, nat_join 23 _ _ (by omega) hx]
set_option maxRecDepth 100000 in
theorem Narrow_nan (b F : Nat) (w : World) (hb : b < 18446744073709551616) (hE : b / 2 ^ 52 % 2 ^ 11 = 2047) (hF : b % 2 ^ 52 = F) (hF0 : 0 < F) : Calls Try.prog 37 #[.int .u64 b] w fun e w' =>
    e = .returned (.int .u32 (b / 2 ^ 63 % 2 * 2 ^ 31 + 2139095040 + (4194304 ||| F / 2 ^ 29) : Nat)) ∧ Below w.heap.size w w' := by
  have hap := fun w => Apart_64 b w hb
  have hFl : b % 2 ^ 52 < 2 ^ 52 := Nat.mod_lt _ (by decide)
  obtain ⟨N, S, hN, hN2, hS, hs0, hs1, hs2⟩ := sign_form b hb
  rw [hN, hE, hF] at hap
  rw [hF] at hFl
  rw [hN]
  have hQl : F / 2 ^ 29 < 2 ^ 23 := by omega
  have hnj := nan_join N (F / 2 ^ 29) hN2 hQl
  have hdiv : (F : Int) / 536870912 = ((F / 2 ^ 29 : Nat) : Int) := by omega
  generalize F / 2 ^ 29 = Q at *
  have hor : bits .or .u32 (S : Int) 2143289344 = ((S + 2143289344 : Nat) : Int) := by
    have := u32_or_nat S 2143289344 (by omega) (by decide)
    rw [nat_join 31 _ _ (by rw [hS]; simp) (by decide)] at this
    exact this
  have hor2 := u32_or_nat (S + 2143289344) Q (by omega) (by omega)
  rw [← hS] at hnj ⊢
  rw [hnj] at hor2
  obtain ⟨R, hR⟩ : ∃ R, R = S + 2139095040 + (4194304 ||| Q) := ⟨_, rfl⟩
  rw [← hR] at hor2 ⊢
  obtain ⟨A, hA⟩ : ∃ A, A = S + 2143289344 := ⟨_, rfl⟩
  rw [← hA] at hor hor2
  have hQw : IntKind.u32.wrap (Q : Int) = (Q : Int) := IntWalk.u32_in _ ⟨by omega, by omega⟩
  have hQm : (Q : Int) % 4294967296 = (Q : Int) := by omega
  have hF1 : (0 : Int) < (F : Int) := by omega
  clear hS hN hE hF hR hb hA hnj
  unfold rval at hap
  have HAP := Lib.hid hap; clear hap
  go_enter Try.func37, Try.ntmps37
  go_wp2_with fail
  refine (HAP.out _).mono ?_
  rintro e w1 ⟨rfl, hb1⟩
  go_wp2_with fail
  go_ret
  exact ⟨rfl, hb1.alloc hb1.size _⟩
end Go.Proofs.Ytmmkbjinkdgdbaa
