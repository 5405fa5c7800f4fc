/- Contract of package real: Widen. -/
import Derived.Test.YtmmkbjinkdgdbaaRealC
namespace Go.Proofs.Ytmmkbjinkdgdbaa
open Go.RowKit
set_option linter.unusedVariables false
set_option linter.unusedSimpArgs false
set_option maxRecDepth 100000 in
theorem Widen_inf (b : Nat) (w : World) (hb : b < 4294967296) (hE : b / 2 ^ 23 % 2 ^ 8 = 255) : Calls Try.prog 34 #[.int .u32 b] w fun e w' =>
    e = .returned (.int .u64 (b / 2 ^ 31 % 2 * 2 ^ 63 + 2047 * 2 ^ 52 + b % 2 ^ 23 * 2 ^ 29 : Nat)) ∧ Below w.heap.size w w' := by
  have hap := fun w => Apart_32 b w hb
  have hN : b / 2 ^ 31 % 2 < 2 := Nat.mod_lt _ (by decide)
  have hF : b % 2 ^ 23 < 2 ^ 23 := Nat.mod_lt _ (by decide)
  rw [hE] at hap
  generalize b / 2 ^ 31 % 2 = N at *
  generalize b % 2 ^ 23 = F at *
  obtain ⟨G, hG⟩ : ∃ G, G = F * 2 ^ 29 := ⟨_, rfl⟩
  rw [← hG]
  have hjo := fun w => Join_64 N 2047 G w hN (by decide) (by omega)
  unfold rval at hap hjo
  have hsh : IntKind.u64.wrap ((F : Int) * 536870912) = (G : Int) := by
    rw [show ((F : Int) * 536870912) = (G : Int) by omega]; exact IntWalk.u64_in _ ⟨by omega, by omega⟩
  clear hG
  have HAP := Lib.hid hap; clear hap
  have HJO := Lib.hid hjo; clear hjo
  have hk0 : IntKind.u64.wrap (b : Int) = (b : Int) := IntWalk.u64_in _ ⟨by omega, by omega⟩
  have hk1 : IntKind.i64.wrap 1278 = 1278 := by decide
  have hk2 : IntKind.i64.wrap 1151 = 1151 := by decide
  clear hE hF
  go_enter Try.func34, Try.ntmps34
  go_wp2_with fail
  refine (HAP.out _).mono ?_
  rintro e w1 ⟨rfl, hb1⟩
  go_wp2_with fail
  refine (HJO.out _).mono ?_
  rintro e w2 ⟨rfl, hb2⟩
  go_wp2_with fail
  go_ret
  have hbA := hb1.alloc hb1.size (.cells #[.bool ((N : Int) == 1), .int .i64 255, .int .u64 (F : Int)] 115)
  have hbB := hbA.alloc hbA.size (.cells #[.bool ((N : Int) == 1), .int .i64 2047, .int .u64 (G : Int)] 115)
  exact ⟨rfl, hbB.trans (hb2.mono hbB.size)⟩
set_option maxRecDepth 100000 in
theorem Widen_norm (b E : Nat) (w : World) (hb : b < 4294967296) (hE : b / 2 ^ 23 % 2 ^ 8 = E) (hE0 : 0 < E) (hE1 : E < 255) : Calls Try.prog 34 #[.int .u32 b] w fun e w' =>
    e = .returned (.int .u64 (b / 2 ^ 31 % 2 * 2 ^ 63 + (E + 896) * 2 ^ 52 + b % 2 ^ 23 * 2 ^ 29 : Nat)) ∧ Below w.heap.size w w' := by
  have hap := fun w => Apart_32 b w hb
  have hN : b / 2 ^ 31 % 2 < 2 := Nat.mod_lt _ (by decide)
  have hF : b % 2 ^ 23 < 2 ^ 23 := Nat.mod_lt _ (by decide)
  rw [hE] at hap
  generalize b / 2 ^ 31 % 2 = N at *
  generalize b % 2 ^ 23 = F at *
  obtain ⟨G, hG⟩ : ∃ G, G = F * 2 ^ 29 := ⟨_, rfl⟩
  obtain ⟨X, hX⟩ : ∃ X, X = E + 896 := ⟨_, rfl⟩
  rw [← hG, ← hX]
  have hjo := fun w => Join_64 N X G w hN (by omega) (by omega)
  unfold rval at hap hjo
  have hsh : IntKind.u64.wrap ((F : Int) * 536870912) = (G : Int) := by
    rw [show ((F : Int) * 536870912) = (G : Int) by omega]; exact IntWalk.u64_in _ ⟨by omega, by omega⟩
  have hk1 : IntKind.i64.wrap ((E : Int) + 1023) = (E : Int) + 1023 := IntWalk.i64_in _ ⟨by omega, by omega⟩
  have hk2 : IntKind.i64.wrap ((E : Int) + 1023 - 127) = (X : Int) := by
    rw [show (E : Int) + 1023 - 127 = (X : Int) by omega]; exact IntWalk.i64_in _ ⟨by omega, by omega⟩
  have hq1 : ((E : Int) == 255) = false := by rw [beq_eq_false_iff_ne]; omega
  have hq2 : ((E : Int) == 0) = false := by rw [beq_eq_false_iff_ne]; omega
  clear hG hX
  have HAP := Lib.hid hap; clear hap
  have HJO := Lib.hid hjo; clear hjo
  have hk0 : IntKind.u64.wrap (b : Int) = (b : Int) := IntWalk.u64_in _ ⟨by omega, by omega⟩
  clear hE hF
  go_enter Try.func34, Try.ntmps34
  go_wp2_with fail
  refine (HAP.out _).mono ?_
  rintro e w1 ⟨rfl, hb1⟩
  go_wp2_with fail
  refine (HJO.out _).mono ?_
  rintro e w2 ⟨rfl, hb2⟩
  go_wp2_with fail
  go_ret
  have hbA := hb1.alloc hb1.size (.cells #[.bool ((N : Int) == 1), .int .i64 (E : Int), .int .u64 (F : Int)] 115)
  have hbB := hbA.alloc hbA.size (.cells #[.bool ((N : Int) == 1), .int .i64 (X : Int), .int .u64 (G : Int)] 115)
  exact ⟨rfl, hbB.trans (hb2.mono hbB.size)⟩
set_option maxRecDepth 100000 in
theorem Widen_zero (b : Nat) (w : World) (hb : b < 4294967296) (hE : b / 2 ^ 23 % 2 ^ 8 = 0) (hF : b % 2 ^ 23 = 0) : Calls Try.prog 34 #[.int .u32 b] w fun e w' =>
    e = .returned (.int .u64 (b / 2 ^ 31 % 2 * 2 ^ 63 + 0 * 2 ^ 52 + 0 : Nat)) ∧ Below w.heap.size w w' := by
  have hap := fun w => Apart_32 b w hb
  have hN : b / 2 ^ 31 % 2 < 2 := Nat.mod_lt _ (by decide)
  rw [hE, hF] at hap
  generalize b / 2 ^ 31 % 2 = N at *
  have hjo := fun w => Join_64 N 0 0 w hN (by decide) (by decide)
  obtain ⟨R, hR⟩ : ∃ R, R = N * 2 ^ 63 + 0 * 2 ^ 52 + 0 := ⟨_, rfl⟩
  rw [← hR] at hjo ⊢
  clear hR
  unfold rval at hap hjo
  have hk1 : IntKind.i64.wrap 1023 = 1023 := by decide
  have hk2 : IntKind.i64.wrap 896 = 896 := by decide
  have HAP := Lib.hid hap; clear hap
  have HJO := Lib.hid hjo; clear hjo
  have hk0 : IntKind.u64.wrap (b : Int) = (b : Int) := IntWalk.u64_in _ ⟨by omega, by omega⟩
  clear hE hF
  go_enter Try.func34, Try.ntmps34
  go_wp2_with fail
  refine (HAP.out _).mono ?_
  rintro e w1 ⟨rfl, hb1⟩
  go_wp2_with fail
  refine (HJO.out _).mono ?_
  rintro e w2 ⟨rfl, hb2⟩
  go_wp2_with fail
  go_ret
  have hbA := hb1.alloc hb1.size (.cells #[.bool ((N : Int) == 1), .int .i64 0, .int .u64 0] 115)
  have hbB := hbA.alloc hbA.size (.cells #[.bool ((N : Int) == 1), .int .i64 0, .int .u64 0] 115)
  exact ⟨rfl, hbB.trans (hb2.mono hbB.size)⟩
set_option maxRecDepth 100000 in
theorem Widen_sub (b : Nat) (w : World) (hb : b < 4294967296) (hE : b / 2 ^ 23 % 2 ^ 8 = 0) (hF0 : 0 < b % 2 ^ 23) : Calls Try.prog 34 #[.int .u32 b] w fun e w' =>
    ∃ s H : Nat, s ≤ 23 ∧ b % 2 ^ 23 * 2 ^ s = 2 ^ 23 + H ∧ H < 2 ^ 23 ∧ e = .returned (.int .u64 (b / 2 ^ 31 % 2 * 2 ^ 63 + (897 - s) * 2 ^ 52 + H * 2 ^ 29 : Nat)) ∧ Below w.heap.size w w' := by
  have hap := fun w => Apart_32 b w hb
  have hN : b / 2 ^ 31 % 2 < 2 := Nat.mod_lt _ (by decide)
  have hF : b % 2 ^ 23 < 2 ^ 23 := Nat.mod_lt _ (by decide)
  rw [hE] at hap
  generalize b / 2 ^ 31 % 2 = N at *
  generalize b % 2 ^ 23 = F at *
  unfold rval at hap
  obtain ⟨G, hG⟩ : ∃ G, G = F * 2 ^ 29 := ⟨_, rfl⟩
  have hsh : IntKind.u64.wrap ((F : Int) * 536870912) = (G : Int) := by
    rw [show ((F : Int) * 536870912) = (G : Int) by omega]; exact IntWalk.u64_in _ ⟨by omega, by omega⟩
  clear hG
  have hk1 : IntKind.i64.wrap 1023 = 1023 := by decide
  have hk2 : IntKind.i64.wrap 896 = 896 := by decide
  have hk3 : IntKind.i64.wrap 897 = 897 := by decide
  have hq2 : ((F : Int) == 0) = false := by rw [beq_eq_false_iff_ne]; omega
  have HAP := Lib.hid hap; clear hap
  have hk0 : IntKind.u64.wrap (b : Int) = (b : Int) := IntWalk.u64_in _ ⟨by omega, by omega⟩
  clear hE
  have HF := Lib.hid hF; clear hF
  have HF0 := Lib.hid hF0; clear hF0
  go_enter Try.func34, Try.ntmps34
  go_wp2_with fail
  refine (HAP.out _).mono ?_
  rintro e w1 ⟨rfl, hb1⟩
  go_wp2_with fail
  have hr1 := (RowAt.new w1 115 #[.bool ((N : Int) == 1), .int .i64 0, .int .u64 (F : Int)]).alloc (.cells #[.bool ((N : Int) == 1), .int .i64 897, .int .u64 (G : Int)] 115)
  have hr2 := RowAt.new (w1.alloc (.cells #[.bool ((N : Int) == 1), .int .i64 0, .int .u64 (F : Int)] 115)) 115 #[.bool ((N : Int) == 1), .int .i64 897, .int .u64 (G : Int)]
  have hbA := hb1.alloc hb1.size (.cells #[.bool ((N : Int) == 1), .int .i64 0, .int .u64 (F : Int)] 115)
  have hbB := hbA.alloc hbA.size (.cells #[.bool ((N : Int) == 1), .int .i64 897, .int .u64 (G : Int)] 115)
  have hsz : (w1.alloc (.cells #[.bool ((N : Int) == 1), .int .i64 0, .int .u64 (F : Int)] 115)).heap.size = w1.heap.size + 1 := by simp
  rw [hsz] at hr2
  generalize (w1.alloc (.cells #[.bool ((N : Int) == 1), .int .i64 0, .int .u64 (F : Int)] 115)).alloc (.cells #[.bool ((N : Int) == 1), .int .i64 897, .int .u64 (G : Int)] 115) = w4 at *
  have hle := hb1.size
  clear hsz hbA hb1
  generalize w1.heap.size = B at *
  simp only at hr1 hr2
  go_loopw [] (fun wr => ∃ k Q : Nat, k ≤ 23 ∧ Q = F * 2 ^ k ∧ Q < 2 ^ 24 ∧ RowAt wr B 0 115 [.bool ((N : Int) == 1), .int .i64 0, .int .u64 (Q : Int)] ∧ RowAt wr (B + 1) 0 115 [.bool ((N : Int) == 1), .int .i64 ((897 - k : Nat) : Int), .int .u64 (G : Int)] ∧ Below w.heap.size w wr) (fun wr => 16777216 - (intOf ((wr.cell? ⟨B, 2, none⟩).getD (.bool false))).toNat)
  case atStart => exact ⟨0, F, by omega, by simp, by have := HF.out; omega, hr1, hr2, hbB⟩
  case round =>
    clear hr1 hr2 hbB
    obtain ⟨k, Q, hk, hQ, hQl, hr1, hr2, hb⟩ := hrel
    have hQ1 : 2 ^ k ≤ Q := by rw [hQ]; exact Nat.le_mul_of_pos_left _ HF0.out
    have hQ2 : F * 2 ^ (k + 1) = Q * 2 := by rw [hQ, Nat.pow_succ, Nat.mul_assoc]
    have HQ := Lib.hid hQ; clear hQ
    have HQ2 := Lib.hid hQ2; clear hQ2
    have hc0 := hr1.cell0 0 (by simp)
    have hc1 := hr1.cell0 1 (by simp)
    have hc2 := hr1.cell0 2 (by simp)
    have hd0 := hr2.cell0 0 (by simp)
    have hd1 := hr2.cell0 1 (by simp)
    have hd2 := hr2.cell0 2 (by simp)
    have hf2 := hr1.frozen0 2 (by simp)
    have hg1 := hr2.frozen0 1 (by simp)
    have hg2 := hr2.frozen0 2 (by simp)
    simp only [List.getElem_cons_zero, List.getElem_cons_succ] at hc0 hc1 hc2 hd0 hd1 hd2
    by_cases hq : Q < 2 ^ 23
    · have hk22 : k < 23 := by
        apply Nat.lt_of_not_le
        intro h
        have := Nat.pow_le_pow_right (n := 2) (by decide) h
        omega
      have hdiv : ((Q : Int) / 8388608 == 0) = true := by simp only [beq_iff_eq]; omega
      have hm2 : IntKind.u64.wrap ((Q : Int) * 2) = ((Q * 2 : Nat) : Int) := by rw [IntWalk.u64_in _ ⟨by omega, by omega⟩]; simp
      have hk9 : IntKind.i64.wrap (((897 - k : Nat) : Int) - 1) = ((897 - (k + 1) : Nat) : Int) := by
        rw [show ((897 - k : Nat) : Int) - 1 = ((897 - (k + 1) : Nat) : Int) by omega]; exact IntWalk.i64_in _ ⟨by omega, by omega⟩
      have hQ2p : 2 * Q < 2 ^ 24 := by omega
      have hQ0 : 0 < Q := Nat.lt_of_lt_of_le (Nat.pow_pos (by decide)) hQ1
      have hcst : ((Q * 2 : Nat) : Int) = (Q : Int) * 2 := by simp
      have hr1' := (hr1.set0 2 (by simp) (.int .u64 ((Q : Int) * 2))).far (p := ⟨B + 1, 1, none⟩) (by simp) (.int .i64 ((896 - k : Nat) : Int))
      have hr2' := (hr2.far (p := ⟨B, 2, none⟩) (by simp) (.int .u64 ((Q : Int) * 2))).set0 1 (by simp) (.int .i64 ((896 - k : Nat) : Int))
      have hb' := (hb.setCell (p := ⟨B, 2, none⟩) hle (.int .u64 ((Q : Int) * 2))).setCell (p := ⟨B + 1, 1, none⟩) (Nat.le_succ_of_le hle) (.int .i64 ((896 - k : Nat) : Int))
      simp only [List.set_cons_zero, List.set_cons_succ] at hr1' hr2'
      have hcell := hr1'.cell0 2 (by simp)
      simp only [List.getElem_cons_zero, List.getElem_cons_succ] at hcell
      go_wp2_with fail
      go_roundw
      case rel =>
        refine ⟨k + 1, Q * 2, by omega, HQ2.out.symm, by omega, ?_, ?_, hb'⟩
        · rw [hcst]; exact hr1'
        · rw [show 897 - (k + 1) = 896 - k by omega]; exact hr2'
      case measure =>
        rw [hcell, hc2]
        simp [intOf]
        omega
    · have hdiv : ((Q : Int) / 8388608 == 0) = false := by rw [beq_eq_false_iff_ne]; omega
      have hand : bits .and .u64 (Q : Int) 8388607 = ((Q % 2 ^ 23 : Nat) : Int) := by
        have := and_form Q 1 23 (by omega) (by decide)
        rw [Nat.div_one] at this
        rw [← this]; simp
      have hHl : Q % 2 ^ 23 < 2 ^ 23 := Nat.mod_lt _ (by decide)
      have hHe : Q = 2 ^ 23 + Q % 2 ^ 23 := by omega
      generalize Q % 2 ^ 23 = H at *
      have HHe := Lib.hid hHe; clear hHe
      obtain ⟨H2, hH2⟩ : ∃ H2, H2 = H * 2 ^ 29 := ⟨_, rfl⟩
      have hH2w : IntKind.u64.wrap ((H : Int) * 536870912) = (H2 : Int) := by
        rw [show ((H : Int) * 536870912) = (H2 : Int) by omega]; exact IntWalk.u64_in _ ⟨by omega, by omega⟩
      have hjo := fun w => Join_64 N (897 - k) H2 w hN (by omega) (by omega)
      obtain ⟨R, hR⟩ : ∃ R, R = N * 2 ^ 63 + (897 - k) * 2 ^ 52 + H2 := ⟨_, rfl⟩
      rw [← hR] at hjo
      have HR := Lib.hid hR; clear hR
      unfold rval at hjo
      have HJO := Lib.hid hjo; clear hjo
      have HH2 := Lib.hid hH2; clear hH2
      have hb' := hb.setCell (p := ⟨B + 1, 2, none⟩) (Nat.le_succ_of_le hle) (.int .u64 (H2 : Int))
      go_wp2_with fail
      with_reducible refine (HJO.out _).mono ?_
      rintro e w2 ⟨rfl, hb2⟩
      go_wp2_with fail
      go_ret
      have e1 : F * 2 ^ k = 2 ^ 23 + H := HQ.out.symm.trans HHe.out
      have e2 : N * 2 ^ 63 + (897 - k) * 2 ^ 52 + H * 2 ^ 29 = R := by rw [HR.out, HH2.out]
      exact ⟨k, H, hk, e1, hHl, by rw [e2]; rfl, hb'.trans (hb2.mono hb'.size)⟩
end Go.Proofs.Ytmmkbjinkdgdbaa
