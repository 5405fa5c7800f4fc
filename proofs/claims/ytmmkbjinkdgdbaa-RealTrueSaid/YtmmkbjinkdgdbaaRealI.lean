/- Contract of package real: Narrow, where it comes to less than the least normal one. -/
import Derived.Test.YtmmkbjinkdgdbaaRealH
namespace Go.Proofs.Ytmmkbjinkdgdbaa
open Go.RowKit
set_option linter.unusedVariables false
set_option linter.unusedSimpArgs false
set_option maxRecDepth 100000 in
theorem Narrow_none (b E : Nat) (w : World) (hb : b < 18446744073709551616) (hE : b / 2 ^ 52 % 2 ^ 11 = E) (h0 : 800 ≤ E) (h1 : E < 866) : Calls Try.prog 37 #[.int .u64 b] w fun e w' =>
    e = .returned (.int .u32 (b / 2 ^ 63 % 2 * 2 ^ 31 : Nat)) ∧ Below w.heap.size w w' := by
  have hap := fun w => Apart_64 b w hb
  have hFl : b % 2 ^ 52 < 2 ^ 52 := Nat.mod_lt _ (by decide)
  obtain ⟨N, S, hN, hN2, hS, hs0, hs1, hs2⟩ := sign_form b hb
  rw [hN, hE] at hap
  generalize b % 2 ^ 52 = F at *
  rw [hN]
  have hsig := sig_form F hFl
  generalize 2 ^ 52 + F = M at *
  unfold rval at hap
  have HAP := Lib.hid hap; clear hap
  have hc1 : ((E : Int) == 2047) = false := by rw [beq_eq_false_iff_ne]; omega
  have hc2 : (800 : Int) ≤ (E : Int) := by omega
  have hk1 : IntKind.i64.wrap ((E : Int) - 1023) = (E : Int) - 1023 := IntWalk.i64_in _ ⟨by omega, by omega⟩
  obtain ⟨Y, hY⟩ : ∃ Y : Int, (E : Int) - 1023 + 127 = Y := ⟨_, rfl⟩
  have hY0 : Y ≤ 0 := by omega
  have hY1 : Y < -30 := by omega
  have hY2 : -3000 ≤ Y := by omega
  rw [← hS]
  have HS := Lib.hid hS; clear hS
  clear hb h0 h1 hN hE
  go_enter Try.func37, Try.ntmps37
  go_wp2_with fail
  refine (HAP.out _).mono ?_
  rintro e w1 ⟨rfl, hb1⟩
  go_wp2_with fail
  go_quiet (fail)
  go_wp2_with fail
  go_ret
  exact ⟨rfl, bdrewN (hb1.alloc hb1.size _) _⟩
set_option maxRecDepth 100000 in
set_option maxHeartbeats 1000000 in
theorem Narrow_mid (b E F : Nat) (w : World) (hb : b < 18446744073709551616) (hE : b / 2 ^ 52 % 2 ^ 11 = E) (hF : b % 2 ^ 52 = F) (h0 : 866 ≤ E) (h1 : E ≤ 896) : Calls Try.prog 37 #[.int .u64 b] w fun e w' =>
    e = .returned (.int .u32 (b / 2 ^ 63 % 2 * 2 ^ 31 + RealN.mag E F : Nat)) ∧ Below w.heap.size w w' := by
  have hap := fun w => Apart_64 b w hb
  have hFl : b % 2 ^ 52 < 2 ^ 52 := Nat.mod_lt _ (by decide)
  obtain ⟨N, S, hN, hN2, hS, hs0, hs1, hs2⟩ := sign_form b hb
  rw [hN, hE, hF] at hap
  rw [hF] at hFl
  rw [hN]
  have hsig := sig_form F hFl
  obtain ⟨G, hG⟩ : ∃ G, G = RealN.mag E F := ⟨_, rfl⟩
  rw [← hG]
  unfold RealN.mag RealN.rnd at hG
  rw [if_neg (by omega), if_pos h1, if_neg (by omega)] at hG
  obtain ⟨d, hd⟩ : ∃ d, 926 - E = d + 1 := ⟨925 - E, by omega⟩
  rw [hd] at hG
  have hd1 : 29 ≤ d := by omega
  have hd2 : d ≤ 59 := by omega
  have hM : 2 ^ 52 + F < 2 ^ 53 := by omega
  generalize 2 ^ 52 + F = M at *
  have hq : (M : Int) / 2 ^ (d + 1) = ((M / 2 ^ (d + 1) : Nat) : Int) := by simp
  have hQl : M / 2 ^ (d + 1) < 2 ^ 24 := by
    have h4 : M / 2 ^ (d + 1) ≤ M / 2 ^ 29 := Nat.div_le_div_left (Nat.pow_le_pow_right (by decide) (by omega)) (by decide)
    omega
  have hPl : 2 ^ d ≤ 2 ^ 59 := Nat.pow_le_pow_right (by decide) hd2
  have hP0 : 0 < 2 ^ d := Nat.pow_pos (by decide)
  have hP2 : 2 ^ (d + 1) = 2 * 2 ^ d := by rw [Nat.pow_succ, Nat.mul_comm]
  have hr : bits .and .u64 (M : Int) ((2 ^ (d + 1) - 1 : Nat) : Int) = ((M % 2 ^ (d + 1) : Nat) : Int) := by
    have := and_form M 1 (d + 1) (by omega) (by omega)
    rw [Nat.div_one] at this
    exact this
  have hp1 : IntKind.u64.wrap (2 ^ d) = ((2 ^ d : Nat) : Int) := by
    rw [show ((2 : Int) ^ d) = ((2 ^ d : Nat) : Int) by simp]; exact IntWalk.u64_in _ ⟨by omega, by omega⟩
  rw [show d + 1 - 1 = d from rfl] at hG
  obtain ⟨W, hW⟩ : ∃ W, W = 2 ^ (d + 1) - 1 := ⟨_, rfl⟩
  rw [← hW] at hr
  generalize M / 2 ^ (d + 1) = Q at *
  generalize M % 2 ^ (d + 1) = R at *
  rw [hP2] at hW
  clear hP2
  generalize 2 ^ d = P at *
  obtain ⟨P2, hP2⟩ : ∃ P2, P2 = P * 2 := ⟨_, rfl⟩
  have hp2 : IntKind.u64.wrap ((P : Int) * 2) = (P2 : Int) := by
    rw [show (P : Int) * 2 = (P2 : Int) by omega]; exact IntWalk.u64_in _ ⟨by omega, by omega⟩
  have hp3 : IntKind.u64.wrap ((P2 : Int) - 1) = (W : Int) := by
    rw [show (P2 : Int) - 1 = (W : Int) by omega]; exact IntWalk.u64_in _ ⟨by omega, by omega⟩
  clear hW hP2 hPl hP0
  have hq1 : bits .and .u64 (Q : Int) 1 = ((Q % 2 : Nat) : Int) := by
    have := and_form Q 1 1 (by omega) (by decide)
    rw [Nat.div_one] at this
    rw [← this]; simp
  have hQ2 : Q % 2 < 2 := Nat.mod_lt _ (by decide)
  generalize Q % 2 = Q1 at *
  obtain ⟨T1, hT1⟩ : ∃ T, T = Q + 1 := ⟨_, rfl⟩
  have hw1 : IntKind.u64.wrap ((Q : Int) + 1) = (T1 : Int) := by
    rw [show (Q : Int) + 1 = (T1 : Int) by omega]; exact IntWalk.u64_in _ ⟨by omega, by omega⟩
  have d1 : decide ((2139095040 : Int) ≤ (T1 : Int)) = false := decide_eq_false (by omega)
  have d0 : decide ((2139095040 : Int) ≤ (Q : Int)) = false := decide_eq_false (by omega)
  have m0 : (Q : Int) % 4294967296 = (Q : Int) := by omega
  have m1 : (T1 : Int) % 4294967296 = (T1 : Int) := by omega
  have hG2 : G < 2 ^ 31 := by
    split at hG <;> omega
  have HT1 := Lib.hid hT1; clear hT1
  have HQl := Lib.hid hQl; clear hQl
  have HM := Lib.hid hM; clear hM
  unfold rval at hap
  have HAP := Lib.hid hap; clear hap
  have hc1 : ((E : Int) == 2047) = false := by rw [beq_eq_false_iff_ne]; omega
  have hc2 : (800 : Int) ≤ (E : Int) := by omega
  have hk1 : IntKind.i64.wrap ((E : Int) - 1023) = (E : Int) - 1023 := IntWalk.i64_in _ ⟨by omega, by omega⟩
  obtain ⟨Y, hY⟩ : ∃ Y : Int, (E : Int) - 1023 + 127 = Y := ⟨_, rfl⟩
  have hY0 : Y ≤ 0 := by omega
  have hY2 : -3000 ≤ Y := by omega
  have hdd : 29 + (1 - Y) = ((d + 1 : Nat) : Int) := by omega
  clear hb hE hF h0 h1 hd
  have HG := Lib.hid hG; clear hG
  have HS := Lib.hid hS; clear hS
  go_enter Try.func37, Try.ntmps37
  go_wp2_with fail
  refine (HAP.out _).mono ?_
  rintro e w1 ⟨rfl, hb1⟩
  go_wp2_with fail
  go_quiet (fail)
  go_wp2_with fail
  all_goals
    go_ret
    refine ⟨ret_u32 (fin_or S N G _ HS.out hN2 ?_ hG2), bdrewN (hb1.alloc hb1.size _) _⟩
    have hg := HG.out
    have ht1 := HT1.out
    clear hw1 hq1 hr hq hsig hp1 hp2 hp3 hk1 hY hdd
    try simp only [beq_iff_eq, beq_eq_false_iff_ne, ne_eq] at *
    split at hg <;> omega
/-- Narrow of a real -/
theorem Narrow_any (b : Nat) (w : World) (hb : b < 18446744073709551616) (hn : RealO.nanW b = false) : Calls Try.prog 37 #[.int .u64 b] w fun e w' =>
    e = .returned (.int .u32 (RealN.nar b : Nat)) ∧ Below w.heap.size w w' := by
  have hr := RealN.rung_le b hn
  have e1 : RealO.rung b / 2 ^ 52 = b / 2 ^ 52 % 2 ^ 11 := by unfold RealO.rung; omega
  have e2 : RealO.rung b % 2 ^ 52 = b % 2 ^ 52 := by unfold RealO.rung; omega
  unfold RealN.nar RealN.nm
  rw [e1, e2]
  have hE : b / 2 ^ 52 % 2 ^ 11 < 2048 := Nat.mod_lt _ (by decide)
  have hF : b % 2 ^ 52 < 2 ^ 52 := Nat.mod_lt _ (by decide)
  have hE2 : b / 2 ^ 52 % 2 ^ 11 = 2047 → b % 2 ^ 52 = 0 := by unfold RealO.rung at hr; omega
  by_cases h1 : b / 2 ^ 52 % 2 ^ 11 < 800
  · have hm : RealN.mag (b / 2 ^ 52 % 2 ^ 11) (b % 2 ^ 52) = 0 := by unfold RealN.mag; rw [if_pos h1]
    rw [hm, Nat.add_zero]
    exact Narrow_low b w hb h1
  · by_cases h2 : b / 2 ^ 52 % 2 ^ 11 < 866
    · have hm : RealN.mag (b / 2 ^ 52 % 2 ^ 11) (b % 2 ^ 52) = 0 := by unfold RealN.mag; rw [if_neg h1, if_pos (by omega), if_pos (by omega)]
      rw [hm, Nat.add_zero]
      exact Narrow_none b _ w hb rfl (by omega) h2
    · by_cases h3 : b / 2 ^ 52 % 2 ^ 11 ≤ 896
      · exact Narrow_mid b _ _ w hb rfl rfl (by omega) h3
      · by_cases h4 : b / 2 ^ 52 % 2 ^ 11 < 2047
        · exact Narrow_high b _ _ w hb rfl rfl (by omega) h4
        · have hm : RealN.mag (b / 2 ^ 52 % 2 ^ 11) (b % 2 ^ 52) = 2139095040 := by unfold RealN.mag; rw [if_neg h1, if_neg h3, if_neg h4]
          rw [hm]
          exact Narrow_inf b w hb (by omega) (hE2 (by omega))
end Go.Proofs.Ytmmkbjinkdgdbaa
