/- The fact 'worded' holds: a number as bytes, and back. -/
import Derived.Test.YtlpockgofejogaaWordA
namespace Go.Proofs.Ytlpockgofejogaa
open Go.RowKit
set_option linter.unusedVariables false
theorem fact1 : putB 4660 2 1 = [18, 52] := by decide
theorem fact2 : getN [120, 52, 18] 1 2 0 2 = 4660 := by decide
theorem fact3 : sgnI 255 1 = -1 := by decide
theorem fact4 : (((unsN (u64N 255) 1 : Nat) : Int) == ((u64N 255 : Nat) : Int)) = true := by decide

set_option maxRecDepth 100000 in
theorem worded_any (w : World) : Calls Try.prog 15 #[] w fun e w' => e = .returned (.bool true) ∧ Below w.heap.size w w' := by
  go_enter Try.func15, Try.ntmps15
  go_wp2_with fail
  refine (Put_any 4660 2 1 _ (by omega) (by omega)).mono ?_
  rintro e w1 ⟨rfl, hb⟩
  rw [fact1]
  go_wp2_with fail
  refine (Get_any (bstr [120, 52, 18]) 1 2 0 _ (by omega) (by omega) (by decide) (by decide)).mono ?_
  rintro e w2 ⟨rfl, rfl⟩
  rw [bstr_data, fact2]
  go_wp2_with fail
  refine (Signed_any 255 1 _ (by omega) (by omega) (by omega)).mono ?_
  rintro e w3 ⟨rfl, rfl⟩
  rw [fact3]
  go_wp2_with fail
  refine (Fits_false 255 1 _ (by omega) (by omega) (by omega) (by omega)).mono ?_
  rintro e w4 ⟨rfl, rfl⟩
  rw [fact4]
  go_wp2_with fail
  go_ret
  exact ⟨rfl, hb⟩

set_option maxRecDepth 100000 in
theorem WordBack_walk (n : Nat) (a o : Int) (s1 s2 : ByteArray) (hn : n < 18446744073709551616) (_ : -9223372036854775808 ≤ a) (_ : a ≤ 9223372036854775807) (_ : -9223372036854775808 ≤ o) (_ : o ≤ 9223372036854775807) (h1 : s1.size ≤ 140737488351232) (h2 : s2.size ≤ 140737488351232) (w : World) :
    Calls Try.prog 3 #[.int .u64 n, .int .i64 a, .int .i64 o, .string s1, .string s2] w fun e w' => e = .returned (.bool true) ∧ Below w.heap.size w w' := by
  by_cases hbig : 200 < s1.size + s2.size
  · have hbig' : (200 : Int) < (s1.size : Int) + (s2.size : Int) := by omega
    go_enter Try.func3, Try.ntmps3
    go_wp2_with fail
    refine (worded_any _).mono ?_
    rintro e w1 ⟨rfl, hb1⟩
    go_wp2_with fail
    go_ret
    exact ⟨rfl, hb1⟩
  · have hbig' : (s1.size : Int) + (s2.size : Int) ≤ 200 := by omega
    have hwo := wideN_or a
    have hoo : pickN o 2 = 0 ∨ pickN o 2 = 1 := by have := pickN_lt o 2 (by omega); omega
    go_enter Try.func3, Try.ntmps3
    go_wp2_with fail
    refine (worded_any _).mono ?_
    rintro e w1 ⟨rfl, hb1⟩
    go_wp2_with fail
    refine (wide_any a _).mono ?_
    rintro e w1 ⟨rfl, rfl⟩
    generalize wideN a = wd at *
    go_wp2_with fail
    refine (pick_nat o 2 _ (by omega) (by omega)).mono ?_
    rintro e w1 ⟨rfl, rfl⟩
    generalize pickN o 2 = od at *
    go_wp2_with fail
    refine (Put_any n wd od _ hwo hoo).mono ?_
    rintro e w2 ⟨rfl, hb2⟩
    have hpl := putB_length n wd od
    go_wp2_with fail
    have hsz : (s1 ++ bstr (putB n wd od) ++ s2).size = s1.size + wd + s2.size := by rw [ByteArray.size_append, ByteArray.size_append, bstr_size, hpl]
    refine (Get_any (s1 ++ bstr (putB n wd od) ++ s2) s1.size wd od _ hwo hoo (by omega) (by unfold maxLen; omega)).mono ?_
    rintro e w3 ⟨rfl, rfl⟩
    rw [get_mid]
    clear hsz
    have hul := unsN_lt n wd hn
    have hpm : putB (unsN n wd) wd od = putB n wd od := putB_mod _ _ _
    generalize putB n wd od = P at *
    generalize hU : unsN n wd = U at *
    have HU := Lib.hid hU; clear hU
    have HPM := Lib.hid hpm; clear hpm
    go_wp2_with fail
    refine (Put_any U wd od _ hwo hoo).mono ?_
    rintro e w3 ⟨rfl, hb3⟩
    rw [HPM.out]
    go_wp2_with fail
    refine (Unsigned_any n wd _ hn (by omega) (by omega)).mono ?_
    rintro e w4 ⟨rfl, rfl⟩
    rw [HU.out]
    go_wp2_with fail
    go_ret
    exact ⟨rfl, hb1.trans ((hb2.trans (hb3.mono hb2.size)).mono hb1.size)⟩

set_option maxRecDepth 100000 in
theorem WordTwice_walk (n : Nat) (a : Int) (hn : n < 18446744073709551616) (_ : -9223372036854775808 ≤ a) (_ : a ≤ 9223372036854775807) (w : World) :
    Calls Try.prog 5 #[.int .u64 n, .int .i64 a] w fun e w' => e = .returned (.bool true) ∧ Below w.heap.size w w' := by
  have hwo := wideN_or a
  go_enter Try.func5, Try.ntmps5
  go_wp2_with fail
  refine (worded_any _).mono ?_
  rintro e w1 ⟨rfl, hb1⟩
  go_wp2_with fail
  refine (wide_any a _).mono ?_
  rintro e w1 ⟨rfl, rfl⟩
  generalize wideN a = wd at *
  have hs := swap_put n wd
  have hss := swap_swap n wd
  generalize hS0 : getN (putB n wd 0) 0 wd 1 wd = S at *
  have HS0 := Lib.hid hS0; clear hS0
  have HS := Lib.hid hs; clear hs
  have HSS := Lib.hid hss; clear hss
  go_wp2_with fail
  refine (Swap_any n wd _ hwo).mono ?_
  rintro e w2 ⟨rfl, hb2⟩
  rw [HS0.out]
  go_wp2_with fail
  refine (Swap_any S wd _ hwo).mono ?_
  rintro e w3 ⟨rfl, hb3⟩
  rw [HSS.out]
  generalize hU : unsN n wd = U at *
  have HU := Lib.hid hU; clear hU
  go_wp2_with fail
  refine (Put_any n wd 0 _ hwo (by omega)).mono ?_
  rintro e w4 ⟨rfl, hb4⟩
  go_wp2_with fail
  refine (Put_any S wd 1 _ hwo (by omega)).mono ?_
  rintro e w5 ⟨rfl, hb5⟩
  rw [HS.out]
  generalize putB n wd 0 = P at *
  go_wp2_with fail
  refine (Unsigned_any n wd _ hn (by omega) (by omega)).mono ?_
  rintro e w6 ⟨rfl, rfl⟩
  rw [HU.out]
  go_wp2_with fail
  go_ret
  have h2 := hb1.trans (hb2.mono hb1.size)
  have h3 := h2.trans (hb3.mono h2.size)
  have h4 := h3.trans (hb4.mono h3.size)
  exact ⟨rfl, h4.trans (hb5.mono h4.size)⟩

theorem wide_big (n : Int) (wd : Nat) (lo : -9223372036854775808 ≤ n) (hi : n ≤ 9223372036854775807) (h1 : 1 ≤ wd) (h8 : wd ≤ 8) :
    unsN (u64N (sgnI (u64N n) wd)) wd = unsN (u64N n) wd ∧
    (decide (0 ≤ n) && (((unsN (u64N n) wd : Nat) : Int) == ((u64N n : Nat) : Int))) = (decide (0 ≤ n) && (((unsN (u64N n) wd : Nat) : Int) == ((u64N n : Nat) : Int))) ∧
    (sgnI (u64N n) wd == n) = ((IntKind.u64.wrap (max n (-1 - n))) / 2 ^ (8 * wd - 1) == 0) ∧ -9223372036854775808 ≤ sgnI (u64N n) wd ∧ sgnI (u64N n) wd ≤ 9223372036854775807 := by
  obtain rfl | rfl | rfl | rfl | rfl | rfl | rfl | rfl : wd = 1 ∨ wd = 2 ∨ wd = 3 ∨ wd = 4 ∨ wd = 5 ∨ wd = 6 ∨ wd = 7 ∨ wd = 8 := by omega
  all_goals
    refine ⟨?_, rfl, ?_, ?_, ?_⟩
    · unfold sgnI unsN u64N; simp only [Nat.reducePow, Nat.reduceDiv]; split <;> omega
    · rw [Bool.eq_iff_iff, beq_iff_eq, beq_iff_eq, IntKind.wrap_u64, Int.max_def]
      unfold sgnI unsN u64N
      simp only [Nat.reducePow, Nat.reduceDiv, Nat.reduceMul, Nat.reduceSub, Int.reducePow]
      split <;> split <;> omega
    · unfold sgnI unsN u64N; simp only [Nat.reducePow, Nat.reduceDiv]; split <;> omega
    · unfold sgnI unsN u64N; simp only [Nat.reducePow, Nat.reduceDiv]; split <;> omega
end Go.Proofs.Ytlpockgofejogaa
