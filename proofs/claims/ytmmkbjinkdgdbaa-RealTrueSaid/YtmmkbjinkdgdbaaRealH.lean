/- Contract of package real: Narrow, with rounding. -/
import Derived.Test.YtmmkbjinkdgdbaaRealG
import Derived.Test.YtmmkbjinkdgdbaaPlainReal4
namespace Go.Proofs.Ytmmkbjinkdgdbaa
open Go.RowKit
set_option linter.unusedVariables false
set_option linter.unusedSimpArgs false
theorem fin_or (S N v : Nat) (V : Int) (hS : S = N * 2 ^ 31) (hN : N < 2) (hV : V = (v : Int)) (hv : v < 2 ^ 31) : bits .or .u32 (S : Int) V = ((N * 2 ^ 31 + v : Nat) : Int) := by
  have := u32_or_nat S v (by omega) (by omega)
  rw [nat_join 31 _ _ (by rw [hS]; simp) hv] at this
  rw [hV, this, hS]
/-- a real's whole significand -/
theorem sig_form (F : Nat) (hF : F < 2 ^ 52) : bits .or .u64 (F : Int) 4503599627370496 = ((2 ^ 52 + F : Nat) : Int) := by
  have := u64_or_nat F (2 ^ 52) (by omega) (by decide)
  rw [show ((2 ^ 52 : Nat) : Int) = 4503599627370496 from rfl] at this
  rw [this, Nat.or_comm, nat_join 52 (2 ^ 52) F (by decide) hF]
theorem ret_u32 {a b : Int} (h : a = b) : Ending.returned (.int .u32 a) = .returned (.int .u32 b) := by rw [h]
set_option maxRecDepth 100000 in
set_option maxHeartbeats 1000000 in
theorem Narrow_high (b E F : Nat) (w : World) (hb : b < 18446744073709551616) (hE : b / 2 ^ 52 % 2 ^ 11 = E) (hF : b % 2 ^ 52 = F) (h0 : 897 ≤ E) (h1 : E < 2047) : Calls Try.prog 37 #[.int .u64 b] w fun e w' =>
    e = .returned (.int .u32 (b / 2 ^ 63 % 2 * 2 ^ 31 + RealN.mag E F : Nat)) ∧ Below w.heap.size w w' := by
  have hap := fun w => Apart_64 b w hb
  have hFl : b % 2 ^ 52 < 2 ^ 52 := Nat.mod_lt _ (by decide)
  obtain ⟨N, S, hN, hN2, hS, hs0, hs1, hs2⟩ := sign_form b hb
  rw [hN, hE, hF] at hap
  rw [hF] at hFl
  rw [hN]
  have hsig := sig_form F hFl
  obtain ⟨G, hG⟩ : ∃ G, G = RealN.mag E F := ⟨_, rfl⟩
  rw [← hG]
  unfold RealN.mag RealN.rnd at hG
  rw [if_neg (by omega), if_neg (by omega), if_pos h1] at hG
  have hM : 2 ^ 52 + F < 2 ^ 53 := by omega
  generalize 2 ^ 52 + F = M at *
  have hq : (M : Int) / 536870912 = ((M / 2 ^ 29 : Nat) : Int) := by omega
  have hr : bits .and .u64 (M : Int) 536870911 = ((M % 2 ^ 29 : Nat) : Int) := by
    have := and_form M 1 29 (by omega) (by decide)
    rw [Nat.div_one] at this
    rw [← this]; simp
  have hQl : M / 2 ^ 29 < 2 ^ 24 := by omega
  have hRl : M % 2 ^ 29 < 2 ^ 29 := Nat.mod_lt _ (by decide)
  generalize M / 2 ^ 29 = Q at *
  generalize M % 2 ^ 29 = R at *
  have hq1 : bits .and .u64 (Q : Int) 1 = ((Q % 2 : Nat) : Int) := by
    have := and_form Q 1 1 (by omega) (by decide)
    rw [Nat.div_one] at this
    rw [← this]; simp
  have hQ2 : Q % 2 < 2 := Nat.mod_lt _ (by decide)
  generalize Q % 2 = Q1 at *
  obtain ⟨D, hD⟩ : ∃ D, D = (E - 897) * 2 ^ 23 := ⟨_, rfl⟩
  rw [← hD] at hG
  have hDl : D < 2 ^ 34 := by omega
  obtain ⟨Y, hY⟩ : ∃ Y, Y = E - 896 := ⟨_, rfl⟩
  have hsh : IntKind.u64.wrap (((Y : Int) - 1) * 8388608) = (D : Int) := by
    rw [show ((Y : Int) - 1) * 8388608 = (D : Int) by omega]; exact IntWalk.u64_in _ ⟨by omega, by omega⟩
  have hsh2 : ((Y : Int) - 1) * 8388608 = (D : Int) := by omega
  clear hE hF
  unfold rval at hap
  have HAP := Lib.hid hap; clear hap
  have hc1 : ((E : Int) == 2047) = false := by rw [beq_eq_false_iff_ne]; omega
  have hc2 : (800 : Int) ≤ (E : Int) := by omega
  have hk1 : IntKind.i64.wrap ((E : Int) - 1023) = (E : Int) - 1023 := IntWalk.i64_in _ ⟨by omega, by omega⟩
  have hk2 : (E : Int) - 1023 + 127 = (Y : Int) := by omega
  have hY0 : (0 : Int) < (Y : Int) := by omega
  have hY1 : (Y : Int) ≤ 4000 := by omega
  have hw1 : IntKind.u64.wrap ((Q : Int) + 1) = (Q : Int) + 1 := IntWalk.u64_in _ ⟨by omega, by omega⟩
  obtain ⟨T1, hT1⟩ : ∃ T, T = Q + 1 + D := ⟨_, rfl⟩
  obtain ⟨T0, hT0⟩ : ∃ T, T = Q + D := ⟨_, rfl⟩
  have hw2 : IntKind.u64.wrap ((Q : Int) + 1 + (D : Int)) = (T1 : Int) := by
    rw [show (Q : Int) + 1 + (D : Int) = (T1 : Int) by omega]; exact IntWalk.u64_in _ ⟨by omega, by omega⟩
  have hw3 : IntKind.u64.wrap ((Q : Int) + (D : Int)) = (T0 : Int) := by
    rw [show (Q : Int) + (D : Int) = (T0 : Int) by omega]; exact IntWalk.u64_in _ ⟨by omega, by omega⟩
  have hG2 : G < 2 ^ 31 := by omega
  have HG := Lib.hid hG; clear hG
  have HS := Lib.hid hS; clear hS
  have HT1 := Lib.hid hT1; clear hT1
  have HT0 := Lib.hid hT0; clear hT0
  have HD := Lib.hid hDl; clear hDl
  clear hb hD hY h0 h1 hM
  have hcases : (2139095040 ≤ T1 ∧ 2139095040 ≤ T0) ∨ (2139095040 ≤ T1 ∧ T0 < 2139095040) ∨ (T1 < 2139095040 ∧ T0 < 2139095040) := by have := HT1.out; have := HT0.out; omega
  rcases hcases with ⟨hA, hB⟩ | ⟨hA, hB⟩ | ⟨hA, hB⟩
  case' inl =>
    have d1 : decide ((2139095040 : Int) ≤ (T1 : Int)) = true := decide_eq_true (by omega)
    have d0 : decide ((2139095040 : Int) ≤ (T0 : Int)) = true := decide_eq_true (by omega)
  case' inr.inl =>
    have d1 : decide ((2139095040 : Int) ≤ (T1 : Int)) = true := decide_eq_true (by omega)
    have d0 : decide ((2139095040 : Int) ≤ (T0 : Int)) = false := decide_eq_false (by omega)
    have m0 : (T0 : Int) % 4294967296 = (T0 : Int) := by omega
  case' inr.inr =>
    have d1 : decide ((2139095040 : Int) ≤ (T1 : Int)) = false := decide_eq_false (by omega)
    have d0 : decide ((2139095040 : Int) ≤ (T0 : Int)) = false := decide_eq_false (by omega)
    have m0 : (T0 : Int) % 4294967296 = (T0 : Int) := by omega
    have m1 : (T1 : Int) % 4294967296 = (T1 : Int) := by omega
  all_goals
    have HA := Lib.hid hA; clear hA
    have HB := Lib.hid hB; clear hB
    go_enter Try.func37, Try.ntmps37
    go_wp2_with fail
    refine (HAP.out _).mono ?_
    rintro e w1 ⟨rfl, hb1⟩
    go_wp2_with fail
    go_quiet (fail)
    go_wp2_with fail
  all_goals
    go_ret
    refine ⟨ret_u32 (fin_or S N G _ HS.out hN2 ?_ hG2), bdrewN (hb1.alloc hb1.size _) _⟩
    have hg := HG.out
    have ha := HA.out
    have hb := HB.out
    have ht1 := HT1.out
    have ht0 := HT0.out
    clear hw1 hw2 hw3 hq1 hr hq hsig hsh hsh2 hk1 hk2
    try simp only [beq_iff_eq, beq_eq_false_iff_ne, ne_eq] at *
    split at hg <;> omega
end Go.Proofs.Ytmmkbjinkdgdbaa
