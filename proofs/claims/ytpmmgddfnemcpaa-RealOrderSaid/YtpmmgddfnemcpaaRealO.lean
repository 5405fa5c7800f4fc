/- The law RealOrder. -/
import Derived.Test.YtpmmgddfnemcpaaRealC
import Derived.Test.YtpmmgddfnemcpaaPlainReal
import Derived.Laws.Externs
import Derived.Laws.Cover2
namespace Go.Proofs.Ytpmmgddfnemcpaa
open Go.RowKit
set_option linter.unusedVariables false
set_option linter.unusedSimpArgs false
theorem f64from (b : Nat) (w : World) : (callFunc 18 #[.int .u64 (b : Int)]).run Try.prog w = .ok (.value (.float .f64 b)) w := by
  rw [run_callFunc_extern (P := Try.prog) (fn := Try.f18) (e := Extern.MathFloatBits.float64frombits) (by kernel_rfl) (by kernel_rfl) (by kernel_rfl) (by kernel_rfl) (by kernel_rfl)]
  rfl
theorem n64_bits (a b : Nat) (ha : a < 18446744073709551616) (hb : b < 18446744073709551616) : bits .and .u64 (a : Int) (b : Int) = ((a &&& b : Nat) : Int) ∧ bits .or .u64 (a : Int) (b : Int) = ((a ||| b : Nat) : Int) := by
  have h := bits_nat .u64 64 (by decide) (fun n h0 h1 => by rw [IntKind.wrap_u64]; omega) a b (by omega) (by omega)
  exact h
theorem key_form (b : Nat) (hb : b < 18446744073709551616) :
    bits .and .u64 (b : Int) 9223372036854775807 = ((RealO.rung b : Nat) : Int) ∧ (decide ((0 : Int) < bits .and .u64 (b : Int) 9223372036854775808)) = RealO.negW b := by
  have h1 := (n64_bits b 9223372036854775807 hb (by decide)).1
  have h2 := (n64_bits b 9223372036854775808 hb (by decide)).1
  have e1 : b &&& 9223372036854775807 = b % 2 ^ 63 := Nat.and_two_pow_sub_one_eq_mod b 63
  constructor
  · rw [e1] at h1; exact h1
  · rw [show ((9223372036854775808 : Nat) : Int) = 9223372036854775808 from rfl] at h2
    rw [h2]
    unfold RealO.negW
    have e2 : b &&& 9223372036854775808 = b / 2 ^ 63 % 2 * 2 ^ 63 := by
      apply Nat.eq_of_testBit_eq
      intro i
      rw [Nat.testBit_and, show (9223372036854775808 : Nat) = 2 ^ 63 from rfl, Nat.testBit_two_pow, Nat.testBit_mul_two_pow]
      by_cases h : 63 = i
      · subst h
        simp [Nat.testBit_eq_decide_div_mod_eq]
      · by_cases h3 : i < 63
        · simp [h, show ¬ i ≥ 63 from by omega]
        · have : (b / 2 ^ 63 % 2).testBit (i - 63) = false := by
            have h4 : b / 2 ^ 63 % 2 < 2 ^ (i - 63) := by
              have h5 : 2 ^ 1 ≤ 2 ^ (i - 63) := Nat.pow_le_pow_right (by decide) (by omega)
              have := Nat.mod_lt (b / 2 ^ 63) (show 2 > 0 by decide)
              omega
            exact Nat.testBit_lt_two_pow h4
          simp [h, this]
    rw [e2, Bool.eq_iff_iff]
    simp only [decide_eq_true_eq, beq_iff_eq]
    omega
set_option maxRecDepth 100000 in
theorem Key_64 (b : Nat) (w : World) (hb : b < 18446744073709551616) : Calls Try.prog 19 #[.int .u64 (b : Nat), .int .i64 64] w fun e w' => e = .returned (.tuple #[.int .i64 (RealO.key b), .nilIface]) ∧ Below w.heap.size w w' := by
  obtain ⟨h1, h2⟩ := key_form b hb
  have hr : RealO.rung b < 9223372036854775808 := Nat.mod_lt _ (by decide)
  go_enter Try.func19, Try.ntmps19
  go_wp2_with fail
  refine (form_64 _).mono ?_
  rintro e w1 ⟨rfl, hb1⟩
  go_wp2_with fail
  all_goals
    go_ret2
    refine ⟨?_, hb1⟩
    unfold RealO.key
    rw [‹RealO.negW b = _›]
    rfl
set_option maxRecDepth 100000 in
set_option maxHeartbeats 2000000 in
theorem RealOrder_walk (a b : Nat) (ha : a < 18446744073709551616) (hb : b < 18446744073709551616) (w : World) :
    Calls Try.prog 5 #[.int .u64 (a : Nat), .int .u64 (b : Nat)] w fun e w' => e = .returned (.bool true) ∧ Below w.heap.size w w' := by
  have hx := f64from a
  have hy := f64from b
  have hkey := RealO.key_inj a b ha hb
  have hka := fun w => Key_64 a w ha
  have hkb := fun w => Key_64 b w hb
  have hfmt : FloatKind.f64.format = Ieee.double := rfl
  have honan := RealO.order_nan
  have hoext := RealO.order_ext
  have hmono := RealO.ext_mono a b
  have hmono2 := RealO.ext_mono b a
  have heq := RealO.ext_eq a b
  rw [← hfmt] at honan hoext
  have hrefl : ∀ c, RealO.nanW c = false → FloatKind.f64.format.order c c = some .eq := fun c h => by rw [hoext c c h h]; simp
  have HKA := Lib.hid hka; clear hka
  have HKB := Lib.hid hkb; clear hkb
  have HON := Lib.hid honan; clear honan
  have HOE := Lib.hid hoext; clear hoext
  have HM := Lib.hid hmono; clear hmono
  have HM2 := Lib.hid hmono2; clear hmono2
  have HEQ := Lib.hid heq; clear heq
  have HREF := Lib.hid hrefl; clear hrefl
  generalize RealO.key a = k at *
  generalize RealO.key b = l at *
  have hkl : ((k == l) != ((a : Int) == (b : Int))) = false := by
    have : (k == l) = ((a : Int) == (b : Int)) := by
      rw [Bool.eq_iff_iff]
      simp only [beq_iff_eq]
      rw [hkey]
      omega
    rw [this]; simp
  have hkl2 : ((k == l) == ((a : Int) == (b : Int))) = true := by
    rw [beq_iff_eq, Bool.eq_iff_iff]
    simp only [beq_iff_eq]
    rw [hkey]
    omega
  cases hna : RealO.nanW a with
  | true =>
    have ho := HON.out a a (.inl hna)
    clear hfmt hna
    go_enter Try.func5, Try.ntmps5
    go_wp2_with fail
    refine (halved_any _).mono ?_
    rintro e w1 ⟨rfl, hb1⟩
    go_wp2_with fail
    refine (HKA.out _).mono ?_
    rintro e w2 ⟨rfl, hb2⟩
    go_wp2_with fail
    refine (HKB.out _).mono ?_
    rintro e w3 ⟨rfl, hb3⟩
    go_wp2_with fail
    go_ret
    exact ⟨rfl, (hb1.trans (hb2.mono hb1.size)).trans (hb3.mono (Nat.le_trans hb1.size hb2.size))⟩
  | false =>
    cases hnb : RealO.nanW b with
    | true =>
      have ho := HREF.out a hna
      have ho2 := HON.out b b (.inl hnb)
      clear hfmt hna hnb
      go_enter Try.func5, Try.ntmps5
      go_wp2_with fail
      refine (halved_any _).mono ?_
      rintro e w1 ⟨rfl, hb1⟩
      go_wp2_with fail
      refine (HKA.out _).mono ?_
      rintro e w2 ⟨rfl, hb2⟩
      go_wp2_with fail
      refine (HKB.out _).mono ?_
      rintro e w3 ⟨rfl, hb3⟩
      go_wp2_with fail
      go_ret
      exact ⟨rfl, (hb1.trans (hb2.mono hb1.size)).trans (hb3.mono (Nat.le_trans hb1.size hb2.size))⟩
    | false =>
      have ho1 := HREF.out a hna
      have ho2 := HREF.out b hnb
      have ho := HOE.out a b hna hnb
      have hza := HOE.out a 0 hna RealO.nan_zero
      have hzb := HOE.out b 0 hnb RealO.nan_zero
      rw [RealO.ext_zero] at hza hzb
      have m1 := HM.out hna hnb
      have m2 := HM2.out hnb hna
      have eq1 := HEQ.out hna hnb ha hb
      generalize RealO.ext a = x at *
      generalize RealO.ext b = y at *
      clear hfmt hna hnb HREF HON HOE HM HM2 HEQ
      have HK := Lib.hid hkey; clear hkey
      have M1 := Lib.hid m1; clear m1
      have M2 := Lib.hid m2; clear m2
      have EQ := Lib.hid eq1; clear eq1
      rcases Int.lt_trichotomy x y with hc | hc | hc
      · rw [Int.compare_eq_lt.2 hc] at ho
        have hxy : ((a : Int) == (b : Int)) = false := by
          rw [beq_eq_false_iff_ne]
          intro h
          have := EQ.out.2 (.inl (by omega)); omega
        have hkk : k < l := by
          rcases Int.lt_or_le k l with h | h
          · exact h
          · have := M2.out h; omega
        have k1 : decide (l < k) = false := by rw [decide_eq_false_iff_not]; omega
        have k2 : decide (k < l) = true := by rw [decide_eq_true_eq]; exact hkk
        have k3 : (k == l) = false := by rw [beq_eq_false_iff_ne]; omega
        have hzz : (compare x 0 == .eq && compare y 0 == .eq) = false := by
          rw [Bool.and_eq_false_iff]
          by_cases h0 : x = 0
          · right; rw [Int.compare_eq_gt.2 (by omega)]; rfl
          · left
            rw [beq_eq_false_iff_ne]
            intro h; exact h0 (Int.compare_eq_eq.1 h)
        generalize compare x 0 = cx at *
        generalize compare y 0 = cy at *
        have HC := Lib.hid hc; clear hc
        clear hkk HK
        go_enter Try.func5, Try.ntmps5
        go_wp2_with fail
        refine (halved_any _).mono ?_
        rintro e w1 ⟨rfl, hb1⟩
        go_wp2_with fail
        refine (HKA.out _).mono ?_
        rintro e w2 ⟨rfl, hb2⟩
        go_wp2_with fail
        refine (HKB.out _).mono ?_
        rintro e w3 ⟨rfl, hb3⟩
        go_wp2_with fail
        all_goals
          go_ret
          refine ⟨ret_bool ?_, (hb1.trans (hb2.mono hb1.size)).trans (hb3.mono (Nat.le_trans hb1.size hb2.size))⟩
          first | rfl | (simp [*]; done) | (cases cx <;> cases cy <;> simp_all)
      · rw [Int.compare_eq_eq.2 hc] at ho
        by_cases hab : a = b
        · subst hab
          have k3 : k = l := HK.out.2 rfl
          subst k3
          have hxx : ((a : Int) == (a : Int)) = true := by simp
          have k1 : decide (k < k) = false := by simp
          clear hkl hkl2 HK EQ M1 M2 hc
          generalize compare x 0 = cx at *
          generalize compare y 0 = cy at *
          clear ho1 ho2
          go_enter Try.func5, Try.ntmps5
          go_wp2_with fail
          refine (halved_any _).mono ?_
          rintro e w1 ⟨rfl, hb1⟩
          go_wp2_with fail
          refine (HKA.out _).mono ?_
          rintro e w2 ⟨rfl, hb2⟩
          go_wp2_with fail
          refine (HKB.out _).mono ?_
          rintro e w3 ⟨rfl, hb3⟩
          go_wp2_with fail
          all_goals
            go_ret
            refine ⟨ret_bool ?_, (hb1.trans (hb2.mono hb1.size)).trans (hb3.mono (Nat.le_trans hb1.size hb2.size))⟩
            first | rfl | (simp [*]; done) | (cases cx <;> cases cy <;> simp_all)
        · have hz := EQ.out.1 hc
          have hz : x = 0 ∧ y = 0 := by
            rcases hz with h | h
            · exact absurd h hab
            · exact h
          have hxy : ((a : Int) == (b : Int)) = false := by rw [beq_eq_false_iff_ne]; omega
          have hkne : k ≠ l := fun h => hab (HK.out.1 h)
          rw [hz.1] at hza
          rw [hz.2] at hzb
          have hz0 : compare (0 : Int) 0 = .eq := by simp
          rw [hz0] at hza hzb
          clear hz hz0 hc HK EQ M1 M2 hab
          rcases Int.lt_or_gt_of_ne hkne with hkk | hkk
          · have k1 : decide (l < k) = false := by rw [decide_eq_false_iff_not]; omega
            have k2 : decide (k < l) = true := by rw [decide_eq_true_eq]; exact hkk
            have k3 : (k == l) = false := by rw [beq_eq_false_iff_ne]; exact hkne
            clear hkne hkk
            go_enter Try.func5, Try.ntmps5
            go_wp2_with fail
            refine (halved_any _).mono ?_
            rintro e w1 ⟨rfl, hb1⟩
            go_wp2_with fail
            refine (HKA.out _).mono ?_
            rintro e w2 ⟨rfl, hb2⟩
            go_wp2_with fail
            refine (HKB.out _).mono ?_
            rintro e w3 ⟨rfl, hb3⟩
            go_wp2_with fail
            all_goals
              go_ret
              refine ⟨ret_bool ?_, (hb1.trans (hb2.mono hb1.size)).trans (hb3.mono (Nat.le_trans hb1.size hb2.size))⟩
              first | rfl | (simp [*]; done) | (cases cx <;> cases cy <;> simp_all)
          · have k1 : decide (l < k) = true := by rw [decide_eq_true_eq]; exact hkk
            have k2 : decide (k < l) = false := by rw [decide_eq_false_iff_not]; omega
            have k3 : (k == l) = false := by rw [beq_eq_false_iff_ne]; exact hkne
            clear hkne hkk
            go_enter Try.func5, Try.ntmps5
            go_wp2_with fail
            refine (halved_any _).mono ?_
            rintro e w1 ⟨rfl, hb1⟩
            go_wp2_with fail
            refine (HKA.out _).mono ?_
            rintro e w2 ⟨rfl, hb2⟩
            go_wp2_with fail
            refine (HKB.out _).mono ?_
            rintro e w3 ⟨rfl, hb3⟩
            go_wp2_with fail
            all_goals
              go_ret
              refine ⟨ret_bool ?_, (hb1.trans (hb2.mono hb1.size)).trans (hb3.mono (Nat.le_trans hb1.size hb2.size))⟩
              first | rfl | (simp [*]; done) | (cases cx <;> cases cy <;> simp_all)
      · rw [Int.compare_eq_gt.2 hc] at ho
        have hxy : ((a : Int) == (b : Int)) = false := by
          rw [beq_eq_false_iff_ne]
          intro h
          have := EQ.out.2 (.inl (by omega)); omega
        have hkk : l < k := by
          rcases Int.lt_or_le l k with h | h
          · exact h
          · have := M1.out h; omega
        have k1 : decide (l < k) = true := by rw [decide_eq_true_eq]; exact hkk
        have k2 : decide (k < l) = false := by rw [decide_eq_false_iff_not]; omega
        have k3 : (k == l) = false := by rw [beq_eq_false_iff_ne]; omega
        have hzz : (compare x 0 == .eq && compare y 0 == .eq) = false := by
          rw [Bool.and_eq_false_iff]
          by_cases h0 : x = 0
          · right; rw [Int.compare_eq_lt.2 (by omega)]; rfl
          · left
            rw [beq_eq_false_iff_ne]
            intro h; exact h0 (Int.compare_eq_eq.1 h)
        generalize compare x 0 = cx at *
        generalize compare y 0 = cy at *
        have HC := Lib.hid hc; clear hc
        clear hkk HK
        go_enter Try.func5, Try.ntmps5
        go_wp2_with fail
        refine (halved_any _).mono ?_
        rintro e w1 ⟨rfl, hb1⟩
        go_wp2_with fail
        refine (HKA.out _).mono ?_
        rintro e w2 ⟨rfl, hb2⟩
        go_wp2_with fail
        refine (HKB.out _).mono ?_
        rintro e w3 ⟨rfl, hb3⟩
        go_wp2_with fail
        all_goals
          go_ret
          refine ⟨ret_bool ?_, (hb1.trans (hb2.mono hb1.size)).trans (hb3.mono (Nat.le_trans hb1.size hb2.size))⟩
          first | rfl | (simp [*]; done) | (cases cx <;> cases cy <;> simp_all)
end Go.Proofs.Ytpmmgddfnemcpaa
