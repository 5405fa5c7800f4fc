/- Contracts of package real: form, Apart, Join. -/
import Derived.Test.YtnldobfafaajjaaDoorMem
import Derived.Test.YtnldobfafaajjaaDoorChecked
namespace Go.Proofs.YtnldobfafaajjaaDoor
open Go.RowKit
set_option linter.unusedVariables false
set_option linter.unusedSimpArgs false
set_option maxRecDepth 100000 in
theorem form_32 (w : World) : Calls Tryd.prog 58 #[.int .i64 32] w fun e w' => e = .returned (.tuple #[.int .i64 8, .int .i64 23, .bool true]) ∧ Below w.heap.size w w' := by
  have i0 : ∀ w : World, (Instr.index 119 (.agg #[.int .i64 32, .int .i64 8, .int .i64 23, .int .i64 64, .int .i64 11, .int .i64 52]) (.int .i64 0)).run Tryd.prog w = .ok (.agg #[.int .i64 32, .int .i64 8, .int .i64 23]) w := fun _ => by kernel_rfl
  have i1 : ∀ w : World, (Instr.index 119 (.agg #[.int .i64 32, .int .i64 8, .int .i64 23, .int .i64 64, .int .i64 11, .int .i64 52]) (.int .i64 1)).run Tryd.prog w = .ok (.agg #[.int .i64 64, .int .i64 11, .int .i64 52]) w := fun _ => by kernel_rfl
  go_enter Tryd.func58, Tryd.ntmps58
  go_wp2_with fail
  go_loopw [10] (fun i wr => i = .int .i64 0 ∧ Below w.heap.size w wr) (fun i _ => 0)
  case atStart => exact ⟨rfl, Below.refl _ _⟩
  case round =>
    obtain ⟨rfl, hb⟩ := hrel
    go_wp2_with fail
    go_quiet (fail)
    go_wp2_with fail
    exact bodyPost_ret (v := .tuple #[.int .i64 8, .int .i64 23, .bool true]) (by simp [results, Tryd.results58, go_sem]) rfl ⟨rfl, bdrewN (hb.alloc hb.size _) _⟩
set_option maxRecDepth 100000 in
theorem form_64 (w : World) : Calls Tryd.prog 58 #[.int .i64 64] w fun e w' => e = .returned (.tuple #[.int .i64 11, .int .i64 52, .bool true]) ∧ Below w.heap.size w w' := by
  have i0 : ∀ w : World, (Instr.index 119 (.agg #[.int .i64 32, .int .i64 8, .int .i64 23, .int .i64 64, .int .i64 11, .int .i64 52]) (.int .i64 0)).run Tryd.prog w = .ok (.agg #[.int .i64 32, .int .i64 8, .int .i64 23]) w := fun _ => by kernel_rfl
  have i1 : ∀ w : World, (Instr.index 119 (.agg #[.int .i64 32, .int .i64 8, .int .i64 23, .int .i64 64, .int .i64 11, .int .i64 52]) (.int .i64 1)).run Tryd.prog w = .ok (.agg #[.int .i64 64, .int .i64 11, .int .i64 52]) w := fun _ => by kernel_rfl
  go_enter Tryd.func58, Tryd.ntmps58
  go_wp2_with fail
  go_loopw [10] (fun i wr => (i = .int .i64 0 ∨ i = .int .i64 1) ∧ Below w.heap.size w wr) (fun i _ => 2 - (intOf i).toNat)
  case atStart => exact ⟨.inl rfl, Below.refl _ _⟩
  case round =>
    obtain ⟨rfl | rfl, hb⟩ := hrel
    · go_wp2_with fail
      go_roundw
      case rel => exact ⟨.inr rfl, hb.alloc hb.size _⟩
      case measure => decide
    · go_wp2_with fail
      go_quiet (fail)
      go_wp2_with fail
      exact bodyPost_ret (v := .tuple #[.int .i64 11, .int .i64 52, .bool true]) (by simp [results, Tryd.results58, go_sem]) rfl ⟨rfl, bdrewN (hb.alloc hb.size _) _⟩
def rval (N E F : Nat) : Value := .agg #[.bool ((N : Int) == 1), .int .i64 (E : Nat), .int .u64 (F : Nat)]
theorem and_form (b k n : Nat) (hb : b < 18446744073709551616) (hn : n < 64) : bits .and .u64 (((b / k : Nat)) : Int) ((2 ^ n - 1 : Nat) : Int) = ((b / k % 2 ^ n : Nat) : Int) := by
  have h1 : b / k ≤ b := Nat.div_le_self _ _
  have h2 : 2 ^ n ≤ 2 ^ 63 := Nat.pow_le_pow_right (by decide) (by omega)
  rw [u64_and_nat _ _ (by omega) (by omega), Nat.and_two_pow_sub_one_eq_mod]
set_option maxRecDepth 100000 in
theorem Apart_64 (b : Nat) (w : World) (hb : b < 18446744073709551616) : Calls Tryd.prog 53 #[.int .u64 b, .int .i64 64] w fun e w' =>
    e = .returned (.tuple #[rval (b / 2 ^ 63 % 2) (b / 2 ^ 52 % 2 ^ 11) (b % 2 ^ 52), .nilIface]) ∧ Below w.heap.size w w' := by
  have hn1 : bits .and .u64 ((b : Int) / 9223372036854775808) 1 = ((b / 2 ^ 63 % 2 : Nat) : Int) := by
    have := and_form b (2 ^ 63) 1 hb (by decide)
    rw [← this]; simp
  have hn2 : bits .and .u64 ((b : Int) / 4503599627370496) 2047 = ((b / 2 ^ 52 % 2 ^ 11 : Nat) : Int) := by
    have := and_form b (2 ^ 52) 11 hb (by decide)
    rw [← this]; simp
  have hn3 : bits .and .u64 (b : Int) 4503599627370495 = ((b % 2 ^ 52 : Nat) : Int) := by
    have := and_form b 1 52 hb (by decide)
    rw [Nat.div_one] at this
    rw [← this]; simp
  have hE : b / 2 ^ 52 % 2 ^ 11 < 2 ^ 11 := Nat.mod_lt _ (by decide)
  generalize b / 2 ^ 63 % 2 = N at *
  generalize b / 2 ^ 52 % 2 ^ 11 = E at *
  generalize b % 2 ^ 52 = F at *
  have hEw : IntKind.i64.wrap (E : Int) = (E : Int) := IntWalk.i64_in _ ⟨by omega, by omega⟩
  have hw63 : IntKind.i64.wrap 63 = 63 := by decide
  have hk1 : IntKind.u64.wrap 2048 = 2048 := by decide
  have hk2 : IntKind.u64.wrap 2047 = 2047 := by decide
  have hk3 : IntKind.u64.wrap 4503599627370496 = 4503599627370496 := by decide
  have hk4 : IntKind.u64.wrap 4503599627370495 = 4503599627370495 := by decide
  go_enter Tryd.func53, Tryd.ntmps53
  go_wp2_with fail
  refine (form_64 _).mono ?_
  rintro e w1 ⟨rfl, hb1⟩
  have hrow := (RowAt.new w 89 #[.bool false, .int .i64 0, .int .u64 0]).below hb1 (by simp)
  have hbw := ((Below.refl w.heap.size w).alloc (Nat.le_refl _) (.cells #[.bool false, .int .i64 0, .int .u64 0] 89)).trans (hb1.mono (by simp))
  clear hb1
  generalize hB : w.heap.size = B at *
  have HB := Lib.hid hB; clear hB
  have hc0 := hrow.cell0 0 (by simp)
  have hc1 := hrow.cell0 1 (by simp)
  have hc2 := hrow.cell0 2 (by simp)
  have hf0 := hrow.frozen0 0 (by simp)
  have hf1 := hrow.frozen0 1 (by simp)
  have hf2 := hrow.frozen0 2 (by simp)
  simp only [List.getElem_cons_zero, List.getElem_cons_succ] at hc0 hc1 hc2
  go_wp2_with fail
  go_still_tail 21, (by kernel_rfl)
  change wpList _ _ _ _ _ w1.drew
  go_wp2_with fail
  have hr3 := (((hrow.set0 0 (by simp) (.bool ((N : Int) == 1))).set0 1 (by simp) (.int .i64 (E : Int))).set0 2 (by simp) (.int .u64 (F : Int))).drew
  have hb3 := (((hbw.setCell (p := ⟨B, 0, none⟩) (Nat.le_refl _) (.bool ((N : Int) == 1))).setCell (p := ⟨B, 1, none⟩) (Nat.le_refl _) (.int .i64 (E : Int))).setCell (p := ⟨B, 2, none⟩) (Nat.le_refl _) (.int .u64 (F : Int))).drew
  simp only [List.set_cons_zero, List.set_cons_succ] at hr3
  generalize (((w1.setCell ⟨B, 0, none⟩ (.bool ((N : Int) == 1))).setCell ⟨B, 1, none⟩ (.int .i64 (E : Int))).setCell ⟨B, 2, none⟩ (.int .u64 (F : Int))).drew = w4 at *
  clear hc0 hc1 hc2 hf0 hf1 hf2
  have hc0 := hr3.cell0 0 (by simp)
  have hc1 := hr3.cell0 1 (by simp)
  have hc2 := hr3.cell0 2 (by simp)
  simp only [List.getElem_cons_zero, List.getElem_cons_succ] at hc0 hc1 hc2
  exact bodyPost_ret (v := .tuple #[rval N E F, .nilIface]) (by simp [results, Tryd.results53, go_sem, hc0, hc1, hc2, rval]) rfl ⟨rfl, by rw [HB.out]; exact hb3⟩
end Go.Proofs.YtnldobfafaajjaaDoor
