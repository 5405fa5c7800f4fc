/- Contracts of real.Up, Down, at 64 bits; the law RealNext. -/
import Derived.Test.YtnldobfafaajjaaDoorRealL
import Derived.Test.YtnldobfafaajjaaDoorErrTell
namespace Go.Proofs.YtnldobfafaajjaaDoor
open Go.RowKit
set_option linter.unusedVariables false
set_option linter.unusedSimpArgs false
set_option maxRecDepth 100000 in
theorem Up_no (b : Nat) (w : World) (hb : b < 18446744073709551616) (h : (RealO.nanW b || (decide (RealO.rung b = 2047 * 2 ^ 52) && decide ((0 : Int) ≤ RealO.key b))) = true) :
    Calls Tryd.prog 30 #[.int .u64 (b : Nat), .int .i64 64] w fun e w' => e = .returned (.tuple #[.int .u64 0, .iface 43 (.int .i64 2)]) ∧ Below w.heap.size w w' := by
  have hcn := cls_nan b
  have hci := cls_inf b
  have hC := fun w => Class_64 b w hb
  have hK := fun w => Key_64 b w hb
  have hkb := RealO.key_bounds b
  generalize cls (b / 2 ^ 52 % 2 ^ 11) (b % 2 ^ 52) = c at *
  obtain ⟨q1, hq1⟩ : ∃ q : Bool, RealO.nanW b = q := ⟨_, rfl⟩
  obtain ⟨q2, hq2⟩ : ∃ q : Bool, decide (RealO.rung b = 2047 * 2 ^ 52) = q := ⟨_, rfl⟩
  obtain ⟨q3, hq3⟩ : ∃ q : Bool, decide ((0 : Int) ≤ RealO.key b) = q := ⟨_, rfl⟩
  rw [hq1] at hcn h
  rw [hq2] at hci h
  rw [hq3] at h
  clear hq1 hq2
  have HC := Lib.hid hC; clear hC
  have HK := Lib.hid hK; clear hK
  have hcase : q1 = true ∨ q1 = false ∧ q2 = true ∧ q3 = true := by cases q1 <;> cases q2 <;> cases q3 <;> simp at h ⊢
  rcases hcase with rfl | ⟨rfl, rfl, rfl⟩
  · go_enter Tryd.func30, Tryd.ntmps30
    go_wp2_with fail
    refine (HC.out _).mono ?_
    rintro e w1 ⟨rfl, hb1⟩
    go_wp2_with fail
    refine (HK.out _).mono ?_
    rintro e w2 ⟨rfl, hb2⟩
    go_wp2_with fail
    go_ret2
    exact ⟨rfl, hb1.trans (hb2.mono hb1.size)⟩
  · go_enter Tryd.func30, Tryd.ntmps30
    go_wp2_with fail
    refine (HC.out _).mono ?_
    rintro e w1 ⟨rfl, hb1⟩
    go_wp2_with fail
    refine (HK.out _).mono ?_
    rintro e w2 ⟨rfl, hb2⟩
    go_wp2_with fail
    go_ret2
    exact ⟨rfl, hb1.trans (hb2.mono hb1.size)⟩
set_option maxRecDepth 100000 in
theorem Up_yes (b : Nat) (w : World) (hb : b < 18446744073709551616) (h : (RealO.nanW b || (decide (RealO.rung b = 2047 * 2 ^ 52) && decide ((0 : Int) ≤ RealO.key b))) = false) (h1 : -9223372036854775808 ≤ RealO.key b + 1) (h2 : RealO.key b + 1 ≤ 9223372036854775807) :
    Calls Tryd.prog 30 #[.int .u64 (b : Nat), .int .i64 64] w fun e w' => e = .returned (.tuple #[.int .u64 (RealO.bof (RealO.key b + 1) : Nat), .nilIface]) ∧ Below w.heap.size w w' := by
  have hcn := cls_nan b
  have hci := cls_inf b
  have hC := fun w => Class_64 b w hb
  have hK := fun w => Key_64 b w hb
  have hkb := RealO.key_bounds b
  have hB := fun w => bitsOf_64 (RealO.key b + 1) w h1 h2
  have hw : IntKind.i64.wrap (RealO.key b + 1) = RealO.key b + 1 := IntWalk.i64_in _ ⟨h1, h2⟩
  have HB := Lib.hid hB; clear hB
  generalize cls (b / 2 ^ 52 % 2 ^ 11) (b % 2 ^ 52) = c at *
  obtain ⟨q1, hq1⟩ : ∃ q : Bool, RealO.nanW b = q := ⟨_, rfl⟩
  obtain ⟨q2, hq2⟩ : ∃ q : Bool, decide (RealO.rung b = 2047 * 2 ^ 52) = q := ⟨_, rfl⟩
  obtain ⟨q3, hq3⟩ : ∃ q : Bool, decide ((0 : Int) ≤ RealO.key b) = q := ⟨_, rfl⟩
  rw [hq1] at hcn h
  rw [hq2] at hci h
  rw [hq3] at h
  clear hq1 hq2
  have HC := Lib.hid hC; clear hC
  have HK := Lib.hid hK; clear hK
  have hcase : q1 = false ∧ (q2 = false ∨ q2 = true ∧ q3 = false) := by cases q1 <;> cases q2 <;> cases q3 <;> simp at h ⊢
  obtain ⟨rfl, hcase⟩ := hcase
  rcases hcase with rfl | ⟨rfl, rfl⟩
  · go_enter Tryd.func30, Tryd.ntmps30
    go_wp2_with fail
    refine (HC.out _).mono ?_
    rintro e w1 ⟨rfl, hb1⟩
    go_wp2_with fail
    refine (HK.out _).mono ?_
    rintro e w2 ⟨rfl, hb2⟩
    go_wp2_with fail
    refine (HB.out _).mono ?_
    rintro e w3 ⟨rfl, rfl⟩
    go_wp2_with fail
    go_ret2
    exact ⟨rfl, hb1.trans (hb2.mono hb1.size)⟩
  · go_enter Tryd.func30, Tryd.ntmps30
    go_wp2_with fail
    refine (HC.out _).mono ?_
    rintro e w1 ⟨rfl, hb1⟩
    go_wp2_with fail
    refine (HK.out _).mono ?_
    rintro e w2 ⟨rfl, hb2⟩
    go_wp2_with fail
    refine (HB.out _).mono ?_
    rintro e w3 ⟨rfl, rfl⟩
    go_wp2_with fail
    go_ret2
    exact ⟨rfl, hb1.trans (hb2.mono hb1.size)⟩
set_option maxRecDepth 100000 in
theorem Down_no (b : Nat) (w : World) (hb : b < 18446744073709551616) (h : (RealO.nanW b || (decide (RealO.rung b = 2047 * 2 ^ 52) && decide (RealO.key b < (0 : Int)))) = true) :
    Calls Tryd.prog 31 #[.int .u64 (b : Nat), .int .i64 64] w fun e w' => e = .returned (.tuple #[.int .u64 0, .iface 43 (.int .i64 2)]) ∧ Below w.heap.size w w' := by
  have hcn := cls_nan b
  have hci := cls_inf b
  have hC := fun w => Class_64 b w hb
  have hK := fun w => Key_64 b w hb
  have hkb := RealO.key_bounds b
  generalize cls (b / 2 ^ 52 % 2 ^ 11) (b % 2 ^ 52) = c at *
  obtain ⟨q1, hq1⟩ : ∃ q : Bool, RealO.nanW b = q := ⟨_, rfl⟩
  obtain ⟨q2, hq2⟩ : ∃ q : Bool, decide (RealO.rung b = 2047 * 2 ^ 52) = q := ⟨_, rfl⟩
  obtain ⟨q3, hq3⟩ : ∃ q : Bool, decide (RealO.key b < (0 : Int)) = q := ⟨_, rfl⟩
  rw [hq1] at hcn h
  rw [hq2] at hci h
  rw [hq3] at h
  clear hq1 hq2
  have HC := Lib.hid hC; clear hC
  have HK := Lib.hid hK; clear hK
  have hcase : q1 = true ∨ q1 = false ∧ q2 = true ∧ q3 = true := by cases q1 <;> cases q2 <;> cases q3 <;> simp at h ⊢
  rcases hcase with rfl | ⟨rfl, rfl, rfl⟩
  · go_enter Tryd.func31, Tryd.ntmps31
    go_wp2_with fail
    refine (HC.out _).mono ?_
    rintro e w1 ⟨rfl, hb1⟩
    go_wp2_with fail
    refine (HK.out _).mono ?_
    rintro e w2 ⟨rfl, hb2⟩
    go_wp2_with fail
    go_ret2
    exact ⟨rfl, hb1.trans (hb2.mono hb1.size)⟩
  · go_enter Tryd.func31, Tryd.ntmps31
    go_wp2_with fail
    refine (HC.out _).mono ?_
    rintro e w1 ⟨rfl, hb1⟩
    go_wp2_with fail
    refine (HK.out _).mono ?_
    rintro e w2 ⟨rfl, hb2⟩
    go_wp2_with fail
    go_ret2
    exact ⟨rfl, hb1.trans (hb2.mono hb1.size)⟩
set_option maxRecDepth 100000 in
theorem Down_yes (b : Nat) (w : World) (hb : b < 18446744073709551616) (h : (RealO.nanW b || (decide (RealO.rung b = 2047 * 2 ^ 52) && decide (RealO.key b < (0 : Int)))) = false) (h1 : -9223372036854775808 ≤ RealO.key b - 1) (h2 : RealO.key b - 1 ≤ 9223372036854775807) :
    Calls Tryd.prog 31 #[.int .u64 (b : Nat), .int .i64 64] w fun e w' => e = .returned (.tuple #[.int .u64 (RealO.bof (RealO.key b - 1) : Nat), .nilIface]) ∧ Below w.heap.size w w' := by
  have hcn := cls_nan b
  have hci := cls_inf b
  have hC := fun w => Class_64 b w hb
  have hK := fun w => Key_64 b w hb
  have hkb := RealO.key_bounds b
  have hB := fun w => bitsOf_64 (RealO.key b - 1) w h1 h2
  have hw : IntKind.i64.wrap (RealO.key b - 1) = RealO.key b - 1 := IntWalk.i64_in _ ⟨h1, h2⟩
  have HB := Lib.hid hB; clear hB
  generalize cls (b / 2 ^ 52 % 2 ^ 11) (b % 2 ^ 52) = c at *
  obtain ⟨q1, hq1⟩ : ∃ q : Bool, RealO.nanW b = q := ⟨_, rfl⟩
  obtain ⟨q2, hq2⟩ : ∃ q : Bool, decide (RealO.rung b = 2047 * 2 ^ 52) = q := ⟨_, rfl⟩
  obtain ⟨q3, hq3⟩ : ∃ q : Bool, decide (RealO.key b < (0 : Int)) = q := ⟨_, rfl⟩
  rw [hq1] at hcn h
  rw [hq2] at hci h
  rw [hq3] at h
  clear hq1 hq2
  have HC := Lib.hid hC; clear hC
  have HK := Lib.hid hK; clear hK
  have hcase : q1 = false ∧ (q2 = false ∨ q2 = true ∧ q3 = false) := by cases q1 <;> cases q2 <;> cases q3 <;> simp at h ⊢
  obtain ⟨rfl, hcase⟩ := hcase
  rcases hcase with rfl | ⟨rfl, rfl⟩
  · go_enter Tryd.func31, Tryd.ntmps31
    go_wp2_with fail
    refine (HC.out _).mono ?_
    rintro e w1 ⟨rfl, hb1⟩
    go_wp2_with fail
    refine (HK.out _).mono ?_
    rintro e w2 ⟨rfl, hb2⟩
    go_wp2_with fail
    refine (HB.out _).mono ?_
    rintro e w3 ⟨rfl, rfl⟩
    go_wp2_with fail
    go_ret2
    exact ⟨rfl, hb1.trans (hb2.mono hb1.size)⟩
  · go_enter Tryd.func31, Tryd.ntmps31
    go_wp2_with fail
    refine (HC.out _).mono ?_
    rintro e w1 ⟨rfl, hb1⟩
    go_wp2_with fail
    refine (HK.out _).mono ?_
    rintro e w2 ⟨rfl, hb2⟩
    go_wp2_with fail
    refine (HB.out _).mono ?_
    rintro e w3 ⟨rfl, rfl⟩
    go_wp2_with fail
    go_ret2
    exact ⟨rfl, hb1.trans (hb2.mono hb1.size)⟩
namespace RealO
theorem rung_le (b : Nat) (h : nanW b = false) : rung b ≤ 9218868437227405312 := by
  have := nan_iff b
  rw [h] at this
  simp at this
  omega
theorem next (b : Nat) (hb : b < 2 ^ 64) (h : (nanW b || (decide (rung b = 2047 * 2 ^ 52) && decide ((0 : Int) ≤ key b))) = false) :
    -9223372036854775808 ≤ key b + 1 ∧ key b + 1 ≤ 9223372036854775807 ∧ bof (key b + 1) < 2 ^ 64 ∧ key (bof (key b + 1)) = key b + 1 ∧
    (nanW (bof (key b + 1)) || (decide (rung (bof (key b + 1)) = 2047 * 2 ^ 52) && decide (key (bof (key b + 1)) < (0 : Int)))) = false ∧ bof (key (bof (key b + 1)) - 1) = b ∧
    nanW b = false ∧ nanW (bof (key b + 1)) = false ∧ (ext b < ext (bof (key b + 1)) ∨ ext b = 0 ∧ ext (bof (key b + 1)) = 0) := by
  have hn : nanW b = false := by
    cases hq : nanW b with
    | false => rfl
    | true => rw [hq] at h; simp at h
  rw [hn, Bool.false_or, Bool.and_eq_false_iff, decide_eq_false_iff_not, decide_eq_false_iff_not] at h
  have hr := rung_le b hn
  have hkb := key_bounds b
  have hk1 : key b + 1 ≤ 9218868437227405312 := by
    by_cases h0 : 0 ≤ key b
    · have := (key_pos b h0).2
      rcases h with h | h
      · omega
      · exact absurd h0 h
    · omega
  have hk0 : -9218868437227405313 ≤ key b := by
    by_cases h0 : 0 ≤ key b
    · omega
    · have := (key_neg b (by omega)).2
      omega
  have hku := key_bof (key b + 1) (by omega) (by omega)
  have hu := bof_lt (key b + 1) (by omega) (by omega)
  obtain ⟨u, hue⟩ : ∃ u, u = bof (key b + 1) := ⟨_, rfl⟩
  rw [← hue] at hku hu ⊢
  have hru : rung u ≤ 9218868437227405312 ∧ (key u < 0 → rung u < 9218868437227405312) := by
    by_cases h0 : 0 ≤ key u
    · have := (key_pos u h0).2
      exact ⟨by omega, fun h => by omega⟩
    · have := (key_neg u (by omega)).2
      exact ⟨by omega, fun h => by omega⟩
  have hnu : nanW u = false := by
    cases hq : nanW u with
    | false => rfl
    | true => have := (nan_iff u).1 hq; omega
  have hne : b ≠ u := fun h => by rw [← h] at hku; omega
  refine ⟨by omega, by omega, hu, hku, ?_, ?_, hn, hnu, ?_⟩
  · rw [hnu, Bool.false_or, Bool.and_eq_false_iff, decide_eq_false_iff_not, decide_eq_false_iff_not]
    by_cases h0 : key u < 0
    · left; have := hru.2 h0; omega
    · right; exact h0
  · rw [hku, show key b + 1 - 1 = key b by omega]; exact bof_key b hb
  · have hm := ext_mono b u hn hnu (by omega)
    have he := ext_eq b u hn hnu hb hu
    by_cases hlt : ext b < ext u
    · exact .inl hlt
    · right
      rcases he.1 (by omega) with h | h
      · exact absurd h hne
      · exact h
end RealO
set_option maxRecDepth 100000 in
set_option maxHeartbeats 2000000 in
theorem RealNext_walk (b : Nat) (hb : b < 18446744073709551616) (w : World) (hg : ErrType w) :
    Calls Tryd.prog 9 #[.int .u64 (b : Nat)] w fun e w' => e = .returned (.bool true) ∧ Below w.heap.size w w' := by
  have HG := Lib.hid hg; clear hg
  obtain ⟨q, hq⟩ : ∃ q, (RealO.nanW b || (decide (RealO.rung b = 2047 * 2 ^ 52) && decide ((0 : Int) ≤ RealO.key b))) = q := ⟨_, rfl⟩
  cases q with
  | true =>
    have HU := Lib.hid (fun w => Up_no b w hb hq); clear hq
    go_enter Tryd.func9, Tryd.ntmps9
    go_wp2_with fail
    refine (halved_any _).mono ?_
    rintro e w1 ⟨rfl, hb1⟩
    go_wp2_with fail
    refine (HU.out _).mono ?_
    rintro e w2 ⟨rfl, hb2⟩
    go_wp2_with fail
    have hb12 := hb1.trans (hb2.mono hb1.size)
    refine (Tell_errno _ _ (HG.out.below hb12 HG.out.lt)).mono ?_
    rintro e w3 ⟨rfl, hb3⟩
    go_wp2_with fail
    go_ret
    exact ⟨rfl, hb12.trans (hb3.mono hb12.size)⟩
  | false =>
    obtain ⟨p1, p2, p3, p4, p5, p6, p7, p8, p9⟩ := RealO.next b hb hq
    have HU := Lib.hid (fun w => Up_yes b w hb hq p1 p2); clear hq
    have HK := Lib.hid (fun w => Key_64 b w hb)
    generalize hu : RealO.bof (RealO.key b + 1) = u at *
    clear hu
    have hkb := RealO.key_bounds b
    have HD := Lib.hid (fun w => Down_yes u w p3 p5 (by rw [p4]; omega) (by rw [p4]; omega))
    rw [p6] at HD
    have HL := Lib.hid (fun w => Key_64 u w p3)
    rw [p4] at HL
    have hfx := f64from b
    have hfy := f64from u
    have hfmt : FloatKind.f64.format = Ieee.double := rfl
    have ho := RealO.order_ext b u p7 p8
    have ho1 := RealO.order_ext b 0 p7 RealO.nan_zero
    have ho2 := RealO.order_ext u 0 p8 RealO.nan_zero
    rw [← hfmt] at ho ho1 ho2
    rw [RealO.ext_zero] at ho1 ho2
    clear hkb hfmt p3 p4 p5 p6 p7 p8
    generalize RealO.key b = k at *
    generalize RealO.ext b = x at *
    generalize RealO.ext u = y at *
    have hw1 : IntKind.i64.wrap (k + 1) = k + 1 := IntWalk.i64_in _ ⟨p1, p2⟩
    have hw2 : (k + 1 == k + 1) = true := by simp
    have hw3 : ((b : Int) == (b : Int)) = true := by simp
    rcases p9 with hlt | ⟨rfl, rfl⟩
    · rw [Int.compare_eq_lt.2 hlt] at ho
      generalize compare x 0 = cx at *
      generalize compare y 0 = cy at *
      clear hlt
      go_enter Tryd.func9, Tryd.ntmps9
      go_wp2_with fail
      refine (halved_any _).mono ?_
      rintro e w1 ⟨rfl, hb1⟩
      go_wp2_with fail
      refine (HU.out _).mono ?_
      rintro e w2 ⟨rfl, hb2⟩
      go_wp2_with fail
      refine (HD.out _).mono ?_
      rintro e w3 ⟨rfl, hb3⟩
      go_wp2_with fail
      refine (HK.out _).mono ?_
      rintro e w4 ⟨rfl, hb4⟩
      go_wp2_with fail
      refine (HL.out _).mono ?_
      rintro e w5 ⟨rfl, hb5⟩
      go_wp2_with fail
      go_ret
      have hx2 := hb1.trans (hb2.mono hb1.size)
      have hx3 := hx2.trans (hb3.mono hx2.size)
      have hx4 := hx3.trans (hb4.mono hx3.size)
      exact ⟨rfl, hx4.trans (hb5.mono hx4.size)⟩
    · rw [Int.compare_eq_eq.2 rfl] at ho ho1 ho2
      go_enter Tryd.func9, Tryd.ntmps9
      go_wp2_with fail
      refine (halved_any _).mono ?_
      rintro e w1 ⟨rfl, hb1⟩
      go_wp2_with fail
      refine (HU.out _).mono ?_
      rintro e w2 ⟨rfl, hb2⟩
      go_wp2_with fail
      refine (HD.out _).mono ?_
      rintro e w3 ⟨rfl, hb3⟩
      go_wp2_with fail
      refine (HK.out _).mono ?_
      rintro e w4 ⟨rfl, hb4⟩
      go_wp2_with fail
      refine (HL.out _).mono ?_
      rintro e w5 ⟨rfl, hb5⟩
      go_wp2_with fail
      go_ret
      have hx2 := hb1.trans (hb2.mono hb1.size)
      have hx3 := hx2.trans (hb3.mono hx2.size)
      have hx4 := hx3.trans (hb4.mono hx3.size)
      exact ⟨rfl, hx4.trans (hb5.mono hx4.size)⟩
end Go.Proofs.YtnldobfafaajjaaDoor
