/- The walks of the laws BitsPieces and BitsRound. -/
import Derived.Test.YtlpockgofejogaaBitsD
namespace Go.Proofs.Ytlpockgofejogaa
open Go.RowKit
set_option linter.unusedVariables false
theorem or_join (A B n m : Nat) (hA : A < 2 ^ n) (hB : B < 2 ^ m) (h : n + m ≤ 64) :
    bits .or .u64 (IntKind.u64.wrap ((A : Int) * 2 ^ m)) (B : Int) = ((A * 2 ^ m + B : Nat) : Int) := by
  have h1 : A * 2 ^ m + 2 ^ m ≤ 2 ^ (n + m) := by
    rw [Nat.pow_add, ← Nat.succ_mul]; exact Nat.mul_le_mul_right _ hA
  have h2 : 2 ^ (n + m) ≤ 2 ^ 64 := pow2_le h
  have e : ((A : Int) * 2 ^ m) = ((A * 2 ^ m : Nat) : Int) := by simp
  rw [e, IntWalk.u64_in _ ⟨by omega, by omega⟩, bits_or_u64_nat _ _ (by omega) (by omega), nat_join m _ _ (by simp) hB]

set_option maxRecDepth 100000 in
set_option maxHeartbeats 2000000 in
theorem BitsPieces_walk (s : ByteArray) (a n m : Int) (hs : s.size ≤ 140737488351232) (_ : -9223372036854775808 ≤ a) (_ : a ≤ 9223372036854775807) (_ : -9223372036854775808 ≤ n) (_ : n ≤ 9223372036854775807)
    (_ : -9223372036854775808 ≤ m) (_ : m ≤ 9223372036854775807) (w : World) :
    Calls Try.prog 7 #[.string s, .int .i64 a, .int .i64 n, .int .i64 m] w fun e w' => e = .returned (.bool true) ∧ Below w.heap.size w w' := by
  by_cases h0 : s.size = 0
  · have he : s.toList = [] := by
      rw [ByteArray.toList_eq]; exact List.eq_nil_of_length_eq_zero (by rw [data_length]; exact h0)
    go_enter Try.func7, Try.ntmps7
    go_wp2_with fail
    refine (bitten_any _).mono ?_
    rintro e w1 ⟨rfl, hb1⟩
    go_wp2_with fail
    go_ret
    exact ⟨rfl, hb1⟩
  · have hne := ne_nil s h0
    by_cases hbig : 100 < s.size
    · have hbig' : (100 : Int) < (s.size : Int) := by omega
      go_enter Try.func7, Try.ntmps7
      go_wp2_with fail
      refine (bitten_any _).mono ?_
      rintro e w1 ⟨rfl, hb1⟩
      go_wp2_with fail
      go_ret
      exact ⟨rfl, hb1⟩
    · have hbig' : (s.size : Int) ≤ 100 := by omega
      go_enter Try.func7, Try.ntmps7
      go_wp2_with fail
      refine (bitten_any _).mono ?_
      rintro e w1 ⟨rfl, hb1⟩
      go_wp2_with fail
      all_goals
        refine (pick_at n _ (min 32 (8 * s.size) + 1) _ (by omega) (by omega) (by omega)).mono ?_
        rintro e w2 ⟨rfl, rfl⟩
        have hn1 := pickN_lt n (min 32 (8 * s.size) + 1) (by omega)
        generalize pickN n (min 32 (8 * s.size) + 1) = nn at *
        have hn32 : nn ≤ 32 := by omega
        have hn8 : nn ≤ 8 * s.size := by omega
        clear hn1
        go_wp2_with fail
      all_goals
        refine (pick_at m _ (min 32 (8 * s.size - nn) + 1) _ (by omega) (by omega) (by omega)).mono ?_
        rintro e w2 ⟨rfl, rfl⟩
        have hm1 := pickN_lt m (min 32 (8 * s.size - nn) + 1) (by omega)
        generalize pickN m (min 32 (8 * s.size - nn) + 1) = mm at *
        have hm32 : mm ≤ 32 := by omega
        have hm8 : nn + mm ≤ 8 * s.size := by omega
        clear hm1
        go_wp2_with fail
        refine (pick_at a _ (8 * s.size - nn - mm + 1) _ (by omega) (by omega) (by omega)).mono ?_
        rintro e w2 ⟨rfl, rfl⟩
        have ha1 := pickN_lt a (8 * s.size - nn - mm + 1) (by omega)
        generalize pickN a (8 * s.size - nn - mm + 1) = at_ at *
        have han : at_ + nn + mm ≤ 8 * s.size := by omega
        clear ha1
        go_wp2_with fail
        have hC := getV_big s.data.toList at_ nn mm
        have hZ := getV_little s.data.toList at_ nn mm
        have hA := getV_lt s.data.toList 1 at_ nn
        have hB := getV_lt s.data.toList 1 (at_ + nn) mm
        have hX := getV_lt s.data.toList 0 at_ nn
        have hY := getV_lt s.data.toList 0 (at_ + nn) mm
        refine (BGet_any s at_ nn 1 _ _ rfl hs (by omega) (by omega) (by omega)).mono ?_
        rintro e w2 ⟨rfl, rfl⟩
        generalize getV s.data.toList 1 at_ nn = A at *
        go_wp2_with fail
        refine (BGet_any s (at_ + nn) mm 1 _ _ (by omega) hs (by omega) (by omega) (by omega)).mono ?_
        rintro e w2 ⟨rfl, rfl⟩
        generalize getV s.data.toList 1 (at_ + nn) mm = Bv at *
        go_wp2_with fail
        rw [show ((nn : Int) + (mm : Int)) = ((nn + mm : Nat) : Int) from by omega]
        refine (BGet_any s at_ (nn + mm) 1 _ _ rfl hs (by omega) (by omega) (by omega)).mono ?_
        rintro e w2 ⟨rfl, rfl⟩
        rw [hC]
        have hor1 := or_join A Bv nn mm hA hB (by omega)
        generalize A * 2 ^ mm + Bv = C at *
        clear hA hB hC
        go_wp2_with fail
        refine (BGet_any s at_ nn 0 _ _ rfl hs (by omega) (by omega) (by omega)).mono ?_
        rintro e w2 ⟨rfl, rfl⟩
        generalize getV s.data.toList 0 at_ nn = X at *
        go_wp2_with fail
        refine (BGet_any s (at_ + nn) mm 0 _ _ (by omega) hs (by omega) (by omega) (by omega)).mono ?_
        rintro e w2 ⟨rfl, rfl⟩
        generalize getV s.data.toList 0 (at_ + nn) mm = Y at *
        go_wp2_with fail
        rw [show ((nn : Int) + (mm : Int)) = ((nn + mm : Nat) : Int) from by omega]
        refine (BGet_any s at_ (nn + mm) 0 _ _ rfl hs (by omega) (by omega) (by omega)).mono ?_
        rintro e w2 ⟨rfl, rfl⟩
        rw [hZ]
        have hor2 := or_join Y X mm nn hY hX (by omega)
        generalize Y * 2 ^ nn + X = Z at *
        clear hX hY hZ
        go_wp2_with fail
        all_goals (go_ret; exact ⟨rfl, hb1⟩)
end Go.Proofs.Ytlpockgofejogaa
