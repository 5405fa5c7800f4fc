/- The fact 'halved'; the walk of the law RealBack. -/
import Derived.Test.YtnldobfafaajjaaDoorRealB
namespace Go.Proofs.YtnldobfafaajjaaDoor
open Go.RowKit
set_option linter.unusedVariables false
set_option linter.unusedSimpArgs false
theorem rv_tiny : rval (1 / 2 ^ 63 % 2) (1 / 2 ^ 52 % 2 ^ 11) (1 % 2 ^ 52) = .agg #[.bool false, .int .i64 0, .int .u64 1] := by kernel_rfl
theorem rv_half32 : rval (1056964608 / 2 ^ 31 % 2) (1056964608 / 2 ^ 23 % 2 ^ 8) (1056964608 % 2 ^ 23) = .agg #[.bool false, .int .i64 126, .int .u64 0] := by kernel_rfl
theorem rv_half64 : rval (4602678819172646912 / 2 ^ 63 % 2) (4602678819172646912 / 2 ^ 52 % 2 ^ 11) (4602678819172646912 % 2 ^ 52) = .agg #[.bool false, .int .i64 1022, .int .u64 0] := by kernel_rfl
set_option maxRecDepth 100000 in
theorem Class_tiny (w : World) : Calls Tryd.prog 54 #[.int .u64 1, .int .i64 64] w fun e w' => e = .returned (.tuple #[.int .i64 1, .nilIface]) ∧ Below w.heap.size w w' := by
  have hk1 : IntKind.i64.wrap 2048 = 2048 := by decide
  have hk2 : IntKind.i64.wrap 2047 = 2047 := by decide
  have hap := Apart_64 1 w (by decide)
  rw [rv_tiny] at hap
  have HAP := Lib.hid hap; clear hap
  go_enter Tryd.func54, Tryd.ntmps54
  go_wp2_with fail
  refine HAP.out.mono ?_
  rintro e w1 ⟨rfl, hb1⟩
  go_wp2_with fail
  refine (form_64 _).mono ?_
  rintro e w2 ⟨rfl, hb2⟩
  have hrow := (RowAt.new w1 89 #[.bool false, .int .i64 0, .int .u64 1]).below hb2 (by simp)
  have hbw := ((Below.refl w1.heap.size w1).alloc (Nat.le_refl _) (.cells #[.bool false, .int .i64 0, .int .u64 1] 89)).trans (hb2.mono (by simp))
  replace hbw := hb1.trans (hbw.mono hb1.size)
  clear hb1 hb2
  generalize hB : w1.heap.size = B at *
  clear hB
  have hc0 := hrow.cell0 0 (by simp)
  have hc1 := hrow.cell0 1 (by simp)
  have hc2 := hrow.cell0 2 (by simp)
  simp only [List.getElem_cons_zero, List.getElem_cons_succ] at hc0 hc1 hc2
  go_wp2_with fail
  go_quiet (fail)
  go_wp2_with fail
  go_quiet (fail)
  go_wp2_with fail
  go_ret2
  exact ⟨rfl, bdrewN hbw _⟩
set_option maxRecDepth 100000 in
theorem Widen_half (w : World) : Calls Tryd.prog 55 #[.int .u32 1056964608] w fun e w' => e = .returned (.int .u64 4602678819172646912) ∧ Below w.heap.size w w' := by
  have hap := Apart_32 1056964608 w (by decide)
  rw [rv_half32] at hap
  have HAP := Lib.hid hap; clear hap
  have hjo := fun w => Join_64 0 1022 0 w (by decide) (by decide) (by decide)
  have e0 : rval 0 1022 0 = .agg #[.bool false, .int .i64 1022, .int .u64 0] := rfl
  rw [e0] at hjo
  have HJO := Lib.hid hjo; clear hjo
  have hk : IntKind.u64.wrap 1056964608 = 1056964608 := by decide
  have hk1 : IntKind.i64.wrap 1149 = 1149 := by decide
  have hk2 : IntKind.i64.wrap 1022 = 1022 := by decide
  go_enter Tryd.func55, Tryd.ntmps55
  go_wp2_with fail
  refine HAP.out.mono ?_
  rintro e w1 ⟨rfl, hb1⟩
  go_wp2_with fail
  refine (HJO.out _).mono ?_
  rintro e w2 ⟨rfl, hb2⟩
  go_wp2_with fail
  go_ret
  have hbA := hb1.alloc hb1.size (.cells #[.bool false, .int .i64 126, .int .u64 0] 89)
  have hbB := hbA.alloc hbA.size (.cells #[.bool false, .int .i64 1022, .int .u64 0] 89)
  exact ⟨rfl, hbB.trans (hb2.mono hbB.size)⟩
set_option maxRecDepth 100000 in
theorem Narrow_half (w : World) : Calls Tryd.prog 56 #[.int .u64 4602678819172646912] w fun e w' => e = .returned (.int .u32 1056964608) ∧ Below w.heap.size w w' := by
  have hap := Apart_64 4602678819172646912 w (by decide)
  rw [rv_half64] at hap
  have HAP := Lib.hid hap; clear hap
  have ho1 : bits .or .u64 0 4503599627370496 = 4503599627370496 := by decide
  have ho2 : bits .and .u64 4503599627370496 536870911 = 0 := by decide
  have ho3 : bits .or .u32 0 1056964608 = 1056964608 := by decide
  have ho4 : IntKind.u64.wrap 268435456 = 268435456 := by decide
  have ho5 : IntKind.u64.wrap 536870912 = 536870912 := by decide
  have ho6 : IntKind.u64.wrap 536870911 = 536870911 := by decide
  have ho7 : IntKind.u64.wrap 125 = 125 := by decide
  have ho8 : IntKind.u64.wrap 1048576000 = 1048576000 := by decide
  have ho9 : IntKind.u64.wrap 1056964608 = 1056964608 := by decide
  have ho10 : IntKind.u32.wrap 1056964608 = 1056964608 := by decide
  have ho11 : IntKind.i64.wrap (-1) = -1 := by decide
  have ho12 : IntKind.i64.wrap 126 = 126 := by decide
  have ho13 : bits .and .u64 8388608 1 = 0 := by decide
  go_enter Tryd.func56, Tryd.ntmps56
  go_wp2_with fail
  refine HAP.out.mono ?_
  rintro e w1 ⟨rfl, hb1⟩
  have hrow := RowAt.new w1 89 #[.bool false, .int .i64 1022, .int .u64 0]
  have hbw := hb1.alloc hb1.size (.cells #[.bool false, .int .i64 1022, .int .u64 0] 89)
  go_wp2_with fail
  go_quiet (fail)
  go_wp2_with fail
  go_ret
  exact ⟨rfl, bdrewN hbw _⟩
set_option maxRecDepth 100000 in
theorem halved_any (w : World) : Calls Tryd.prog 29 #[] w fun e w' => e = .returned (.bool true) ∧ Below w.heap.size w w' := by
  have hap := Apart_32 1056964608 w (by decide)
  rw [rv_half32] at hap
  have HAP := Lib.hid hap; clear hap
  go_enter Tryd.func29, Tryd.ntmps29
  go_wp2_with fail
  refine HAP.out.mono ?_
  rintro e w1 ⟨rfl, hb1⟩
  go_wp2_with fail
  refine (Class_tiny _).mono ?_
  rintro e w2 ⟨rfl, hb2⟩
  have hrow := (RowAt.new w1 89 #[.bool false, .int .i64 126, .int .u64 0]).below hb2 (by simp)
  have hbw := ((Below.refl w1.heap.size w1).alloc (Nat.le_refl _) (.cells #[.bool false, .int .i64 126, .int .u64 0] 89)).trans (hb2.mono (by simp))
  replace hbw := hb1.trans (hbw.mono hb1.size)
  clear hb1 hb2
  generalize hB : w1.heap.size = B at *
  clear hB
  have hc0 := hrow.cell0 0 (by simp)
  have hc1 := hrow.cell0 1 (by simp)
  have hc2 := hrow.cell0 2 (by simp)
  simp only [List.getElem_cons_zero, List.getElem_cons_succ] at hc0 hc1 hc2
  go_wp2_with fail
  refine (Widen_half _).mono ?_
  rintro e w3 ⟨rfl, hb3⟩
  go_wp2_with fail
  refine (Narrow_half _).mono ?_
  rintro e w4 ⟨rfl, hb4⟩
  go_wp2_with fail
  go_ret
  replace hbw := hbw.trans (hb3.mono hbw.size)
  exact ⟨rfl, hbw.trans (hb4.mono hbw.size)⟩
end Go.Proofs.YtnldobfafaajjaaDoor
