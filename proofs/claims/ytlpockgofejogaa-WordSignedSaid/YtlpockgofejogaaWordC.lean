/- The walk of the law WordSigned. -/
import Derived.Test.YtlpockgofejogaaWordB
namespace Go.Proofs.Ytlpockgofejogaa
open Go.RowKit
set_option linter.unusedVariables false
set_option maxRecDepth 100000 in
theorem WordSigned_walk (n a : Int) (lo : -9223372036854775808 ≤ n) (hi : n ≤ 9223372036854775807) (_ : -9223372036854775808 ≤ a) (_ : a ≤ 9223372036854775807) (w : World) :
    Calls Try.prog 4 #[.int .i64 n, .int .i64 a] w fun e w' => e = .returned (.bool true) ∧ Below w.heap.size w w' := by
  have hp := pickN_lt a 8 (by omega)
  by_cases h0 : 0 ≤ n
  · have hd : decide (0 ≤ n) = true := by simpa using h0
    go_enter Try.func4, Try.ntmps4
    go_wp2_with fail
    refine (worded_any _).mono ?_
    rintro e w1 ⟨rfl, hb1⟩
    have hu := u64N_wrap n
    have hul := u64N_lt n
    go_wp2_with fail
    refine (pick_nat a 8 _ (by omega) (by omega)).mono ?_
    rintro e w2 ⟨rfl, rfl⟩
    generalize pickN a 8 = p at *
    go_wp2_with fail
    obtain ⟨wd, hwd⟩ : ∃ wd, wd = p + 1 := ⟨_, rfl⟩
    have ew : (1 : Int) + (p : Int) = (wd : Int) := by omega
    have ew' : (p : Int) + 1 = (wd : Int) := by omega
    first | rw [ew] | rw [ew']
    have hwd1 : 1 ≤ wd := by omega
    have hwd8 : wd ≤ 8 := by omega
    clear ew ew' hwd
    obtain ⟨hw1, _, hw2, hw3, hw4⟩ := wide_big n wd lo hi hwd1 hwd8
    have hws := u64N_wrap (sgnI (u64N n) wd)
    have hwl := u64N_lt (sgnI (u64N n) wd)
    have hFt := fun w => Fits_true n wd w lo hi hwd1 hwd8
    have hFf := fun w => Fits_false n wd w lo hi hwd1 hwd8
    have hUs := fun w => Unsigned_any (u64N n) wd w hul hwd1 hwd8
    have hSg := fun w => Signed_any (u64N n) wd w hul hwd1 hwd8
    have hUs2 := fun w => Unsigned_any (u64N (sgnI (u64N n) wd)) wd w hwl hwd1 hwd8
    generalize hug : u64N n = u at *
    have HUG := Lib.hid hug; clear hug
    rw [hd, Bool.true_and] at hFf
    generalize u64N (sgnI u wd) = V at *
    generalize sgnI u wd = S at *
    rw [hw1] at hUs2
    generalize unsN u wd = U at *
    have hs1 : IntKind.i64.wrap (8 * (wd : Int)) = 8 * (wd : Int) := IntWalk.i64_in _ ⟨by omega, by omega⟩
    have hs2 : IntKind.i64.wrap (8 * (wd : Int) - 1) = 8 * (wd : Int) - 1 := IntWalk.i64_in _ ⟨by omega, by omega⟩
    have hs3 : (0 : Int) ≤ 8 * (wd : Int) - 1 := by omega
    have hs4 : 8 * (wd : Int) - 1 ≤ 64 := by omega
    have hs5 : (8 * (wd : Int) - 1).toNat = 8 * wd - 1 := by omega
    have HFt := Lib.hid hFt; have HFf := Lib.hid hFf; have HUs := Lib.hid hUs; have HSg := Lib.hid hSg; have HUs2 := Lib.hid hUs2; have HW2 := Lib.hid hw2
    clear hFt hFf hUs hSg hUs2 hw1 hw2
    with_reducible refine (HUs.out _).mono ?_
    rintro e w3 ⟨rfl, rfl⟩
    go_wp2_with fail
    with_reducible refine (HSg.out _).mono ?_
    rintro e w3 ⟨rfl, rfl⟩
    go_wp2_with fail
    with_reducible refine (HFt.out _).mono ?_
    rintro e w3 ⟨rfl, rfl⟩
    go_wp2_with fail
    with_reducible refine (HUs2.out _).mono ?_
    rintro e w3 ⟨rfl, rfl⟩
    go_wp2_with fail
    go_quiet ((first | (go_at_call 22; with_reducible exact Calls.quiet_of_same (turn (HFf.out _))) | (go_at_call 22; with_reducible exact Calls.quiet_of_same (turn (HFt.out _)))))
    go_wp2_with fail
    go_ret
    refine ⟨ret_bool ?_, bdrewN hb1 _⟩
    rw [HW2.out]
    rw [show max n (-1 - n) = n from by omega, hu]
    simp
  · have hd : decide (0 ≤ n) = false := by simpa using h0
    go_enter Try.func4, Try.ntmps4
    go_wp2_with fail
    refine (worded_any _).mono ?_
    rintro e w1 ⟨rfl, hb1⟩
    have hu := u64N_wrap n
    have hul := u64N_lt n
    go_wp2_with fail
    refine (pick_nat a 8 _ (by omega) (by omega)).mono ?_
    rintro e w2 ⟨rfl, rfl⟩
    generalize pickN a 8 = p at *
    go_wp2_with fail
    obtain ⟨wd, hwd⟩ : ∃ wd, wd = p + 1 := ⟨_, rfl⟩
    have ew : (1 : Int) + (p : Int) = (wd : Int) := by omega
    have ew' : (p : Int) + 1 = (wd : Int) := by omega
    first | rw [ew] | rw [ew']
    have hwd1 : 1 ≤ wd := by omega
    have hwd8 : wd ≤ 8 := by omega
    clear ew ew' hwd
    obtain ⟨hw1, _, hw2, hw3, hw4⟩ := wide_big n wd lo hi hwd1 hwd8
    have hws := u64N_wrap (sgnI (u64N n) wd)
    have hwl := u64N_lt (sgnI (u64N n) wd)
    have hFt := fun w => Fits_true n wd w lo hi hwd1 hwd8
    have hFf := fun w => Fits_false n wd w lo hi hwd1 hwd8
    have hUs := fun w => Unsigned_any (u64N n) wd w hul hwd1 hwd8
    have hSg := fun w => Signed_any (u64N n) wd w hul hwd1 hwd8
    have hUs2 := fun w => Unsigned_any (u64N (sgnI (u64N n) wd)) wd w hwl hwd1 hwd8
    generalize hug : u64N n = u at *
    have HUG := Lib.hid hug; clear hug
    rw [hd, Bool.false_and] at hFf
    generalize u64N (sgnI u wd) = V at *
    generalize sgnI u wd = S at *
    rw [hw1] at hUs2
    generalize unsN u wd = U at *
    have hs1 : IntKind.i64.wrap (8 * (wd : Int)) = 8 * (wd : Int) := IntWalk.i64_in _ ⟨by omega, by omega⟩
    have hs2 : IntKind.i64.wrap (8 * (wd : Int) - 1) = 8 * (wd : Int) - 1 := IntWalk.i64_in _ ⟨by omega, by omega⟩
    have hs3 : (0 : Int) ≤ 8 * (wd : Int) - 1 := by omega
    have hs4 : 8 * (wd : Int) - 1 ≤ 64 := by omega
    have hs5 : (8 * (wd : Int) - 1).toNat = 8 * wd - 1 := by omega
    have HFt := Lib.hid hFt; have HFf := Lib.hid hFf; have HUs := Lib.hid hUs; have HSg := Lib.hid hSg; have HUs2 := Lib.hid hUs2; have HW2 := Lib.hid hw2
    clear hFt hFf hUs hSg hUs2 hw1 hw2
    with_reducible refine (HUs.out _).mono ?_
    rintro e w3 ⟨rfl, rfl⟩
    go_wp2_with fail
    with_reducible refine (HSg.out _).mono ?_
    rintro e w3 ⟨rfl, rfl⟩
    go_wp2_with fail
    with_reducible refine (HFt.out _).mono ?_
    rintro e w3 ⟨rfl, rfl⟩
    go_wp2_with fail
    with_reducible refine (HUs2.out _).mono ?_
    rintro e w3 ⟨rfl, rfl⟩
    go_wp2_with fail
    go_quiet ((first | (go_at_call 22; with_reducible exact Calls.quiet_of_same (turn (HFf.out _))) | (go_at_call 22; with_reducible exact Calls.quiet_of_same (turn (HFt.out _)))))
    go_wp2_with fail
    go_ret
    refine ⟨ret_bool ?_, bdrewN hb1 _⟩
    rw [HW2.out]
    rw [show max n (-1 - n) = -1 - n from by omega, IntWalk.u64_in (-1 - n) ⟨by omega, by omega⟩]
    simp
end Go.Proofs.Ytlpockgofejogaa
