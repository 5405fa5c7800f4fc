/- Contracts of package real: Apart of 32 bits; Join. -/
import Derived.Test.YtnldobfafaajjaaDoorRealA
namespace Go.Proofs.YtnldobfafaajjaaDoor
open Go.RowKit
set_option linter.unusedVariables false
set_option linter.unusedSimpArgs false
set_option maxRecDepth 100000 in
theorem Apart_32 (b : Nat) (w : World) (hb : b < 4294967296) : Calls Tryd.prog 53 #[.int .u64 b, .int .i64 32] w fun e w' =>
    e = .returned (.tuple #[rval (b / 2 ^ 31 % 2) (b / 2 ^ 23 % 2 ^ 8) (b % 2 ^ 23), .nilIface]) ∧ Below w.heap.size w w' := by
  have hn1 : bits .and .u64 ((b : Int) / 2147483648) 1 = ((b / 2 ^ 31 % 2 : Nat) : Int) := by
    have := and_form b (2 ^ 31) 1 (by omega) (by decide)
    rw [← this]; simp
  have hn2 : bits .and .u64 ((b : Int) / 8388608) 255 = ((b / 2 ^ 23 % 2 ^ 8 : Nat) : Int) := by
    have := and_form b (2 ^ 23) 8 (by omega) (by decide)
    rw [← this]; simp
  have hn3 : bits .and .u64 (b : Int) 8388607 = ((b % 2 ^ 23 : Nat) : Int) := by
    have := and_form b 1 23 (by omega) (by decide)
    rw [Nat.div_one] at this
    rw [← this]; simp
  have hE : b / 2 ^ 23 % 2 ^ 8 < 2 ^ 8 := Nat.mod_lt _ (by decide)
  generalize b / 2 ^ 31 % 2 = N at *
  generalize b / 2 ^ 23 % 2 ^ 8 = E at *
  generalize b % 2 ^ 23 = F at *
  have hEw : IntKind.i64.wrap (E : Int) = (E : Int) := IntWalk.i64_in _ ⟨by omega, by omega⟩
  have hw31 : IntKind.i64.wrap 31 = 31 := by decide
  have hk1 : IntKind.u64.wrap 256 = 256 := by decide
  have hk2 : IntKind.u64.wrap 255 = 255 := by decide
  have hk3 : IntKind.u64.wrap 8388608 = 8388608 := by decide
  have hk4 : IntKind.u64.wrap 8388607 = 8388607 := by decide
  go_enter Tryd.func53, Tryd.ntmps53
  go_wp2_with fail
  refine (form_32 _).mono ?_
  rintro e w1 ⟨rfl, hb1⟩
  have hrow := (RowAt.new w 89 #[.bool false, .int .i64 0, .int .u64 0]).below hb1 (by simp)
  have hbw := ((Below.refl w.heap.size w).alloc (Nat.le_refl _) (.cells #[.bool false, .int .i64 0, .int .u64 0] 89)).trans (hb1.mono (by simp))
  clear hb1
  generalize hB : w.heap.size = B at *
  have HB := Lib.hid hB; clear hB
  have hc0 := hrow.cell0 0 (by simp)
  have hc1 := hrow.cell0 1 (by simp)
  have hc2 := hrow.cell0 2 (by simp)
  have hf0 := hrow.frozen0 0 (by simp)
  have hf1 := hrow.frozen0 1 (by simp)
  have hf2 := hrow.frozen0 2 (by simp)
  simp only [List.getElem_cons_zero, List.getElem_cons_succ] at hc0 hc1 hc2
  go_wp2_with fail
  go_still_tail 21, (by kernel_rfl)
  change wpList _ _ _ _ _ w1.drew
  go_wp2_with fail
  have hr3 := (((hrow.set0 0 (by simp) (.bool ((N : Int) == 1))).set0 1 (by simp) (.int .i64 (E : Int))).set0 2 (by simp) (.int .u64 (F : Int))).drew
  have hb3 := (((hbw.setCell (p := ⟨B, 0, none⟩) (Nat.le_refl _) (.bool ((N : Int) == 1))).setCell (p := ⟨B, 1, none⟩) (Nat.le_refl _) (.int .i64 (E : Int))).setCell (p := ⟨B, 2, none⟩) (Nat.le_refl _) (.int .u64 (F : Int))).drew
  simp only [List.set_cons_zero, List.set_cons_succ] at hr3
  generalize (((w1.setCell ⟨B, 0, none⟩ (.bool ((N : Int) == 1))).setCell ⟨B, 1, none⟩ (.int .i64 (E : Int))).setCell ⟨B, 2, none⟩ (.int .u64 (F : Int))).drew = w4 at *
  clear hc0 hc1 hc2 hf0 hf1 hf2
  have hc0 := hr3.cell0 0 (by simp)
  have hc1 := hr3.cell0 1 (by simp)
  have hc2 := hr3.cell0 2 (by simp)
  simp only [List.getElem_cons_zero, List.getElem_cons_succ] at hc0 hc1 hc2
  exact bodyPost_ret (v := .tuple #[rval N E F, .nilIface]) (by simp [results, Tryd.results53, go_sem, hc0, hc1, hc2, rval]) rfl ⟨rfl, by rw [HB.out]; exact hb3⟩
theorem join_form_64 (E F : Nat) (hE : E < 2 ^ 11) (hF : F < 2 ^ 52) : ∃ E2 G G2 : Nat, G = E * 2 ^ 52 + F ∧ G2 = 2 ^ 63 + E * 2 ^ 52 + F ∧
    IntKind.u64.wrap ((E : Int) * 4503599627370496) = (E2 : Int) ∧ bits .or .u64 (E2 : Int) (F : Int) = (G : Int) ∧ bits .or .u64 (G : Int) 9223372036854775808 = (G2 : Int) := by
  have hsh : IntKind.u64.wrap ((E : Int) * 4503599627370496) = ((E * 2 ^ 52 : Nat) : Int) := by
    rw [show ((E : Int) * 4503599627370496) = ((E * 2 ^ 52 : Nat) : Int) by simp]; exact IntWalk.u64_in _ ⟨by omega, by omega⟩
  have hor : bits .or .u64 ((E * 2 ^ 52 : Nat) : Int) (F : Int) = ((E * 2 ^ 52 + F : Nat) : Int) := by
    rw [bits_or_u64_nat _ _ (by omega) (by omega), nat_join 52 _ _ (by simp) hF]
  have hneg : bits .or .u64 ((E * 2 ^ 52 + F : Nat) : Int) 9223372036854775808 = ((2 ^ 63 + E * 2 ^ 52 + F : Nat) : Int) := by
    have := bits_or_u64_nat (E * 2 ^ 52 + F) 9223372036854775808 (by omega) (by decide)
    rw [Nat.or_comm, nat_join 63 _ _ (by decide) (by omega)] at this
    rw [show ((2 ^ 63 + E * 2 ^ 52 + F : Nat)) = 9223372036854775808 + (E * 2 ^ 52 + F) by omega]
    exact this
  exact ⟨_, _, _, rfl, rfl, hsh, hor, hneg⟩
set_option maxRecDepth 100000 in
theorem Join_64 (N E F : Nat) (w : World) (hN : N < 2) (hE : E < 2 ^ 11) (hF : F < 2 ^ 52) : Calls Tryd.prog 74 #[rval N E F, .int .i64 64] w fun e w' =>
    e = .returned (.tuple #[.int .u64 (N * 2 ^ 63 + E * 2 ^ 52 + F : Nat), .nilIface]) ∧ Below w.heap.size w w' := by
  have hEw : IntKind.u64.wrap (E : Int) = (E : Int) := IntWalk.u64_in _ ⟨by omega, by omega⟩
  have hw63 : IntKind.i64.wrap 63 = 63 := by decide
  have hk1 : IntKind.i64.wrap 2048 = 2048 := by decide
  have hk3 : IntKind.u64.wrap 4503599627370496 = 4503599627370496 := by decide
  have hk4 : IntKind.u64.wrap 9223372036854775808 = 9223372036854775808 := by decide
  have hE0 : decide ((E : Int) < 0) = false := by rw [decide_eq_false_iff_not]; omega
  have hE1 : (0 : Int) ≤ (E : Int) := by omega
  have hE2 : decide ((2048 : Int) ≤ (E : Int)) = false := by rw [decide_eq_false_iff_not]; omega
  have hF2 : decide ((4503599627370496 : Int) ≤ (F : Int)) = false := by rw [decide_eq_false_iff_not]; omega
  obtain ⟨E2, G, G2, hG, hG2, hsh, hor, hneg⟩ := join_form_64 E F hE hF
  obtain rfl | rfl : N = 0 ∨ N = 1 := by omega
  · rw [show 0 * 2 ^ 63 + E * 2 ^ 52 + F = G by omega]
    clear hneg hG hG2 hE hF
    unfold rval
    simp only [show (((0 : Nat) : Int) == 1) = false from rfl]
    go_enter Tryd.func74, Tryd.ntmps74
    go_wp2_with fail
    refine (form_64 _).mono ?_
    rintro e w1 ⟨rfl, hb1⟩
    have hrow := (RowAt.new w 89 #[.bool false, .int .i64 (E : Int), .int .u64 (F : Int)]).below hb1 (by simp)
    have hbw := ((Below.refl w.heap.size w).alloc (Nat.le_refl _) (.cells #[.bool false, .int .i64 (E : Int), .int .u64 (F : Int)] 89)).trans (hb1.mono (by simp))
    clear hb1
    generalize hB : w.heap.size = B at *
    have HB := Lib.hid hB; clear hB
    have hc0 := hrow.cell0 0 (by simp)
    have hc1 := hrow.cell0 1 (by simp)
    have hc2 := hrow.cell0 2 (by simp)
    simp only [List.getElem_cons_zero, List.getElem_cons_succ] at hc0 hc1 hc2
    go_wp2_with fail
    go_quiet (fail)
    go_wp2_with fail
    go_quiet (fail)
    go_wp2_with fail
    go_ret2
    exact ⟨rfl, by rw [HB.out]; exact bdrewN hbw _⟩
  · rw [show 1 * 2 ^ 63 + E * 2 ^ 52 + F = G2 by omega]
    clear hG hG2 hE hF
    unfold rval
    simp only [show (((1 : Nat) : Int) == 1) = true from rfl]
    go_enter Tryd.func74, Tryd.ntmps74
    go_wp2_with fail
    refine (form_64 _).mono ?_
    rintro e w1 ⟨rfl, hb1⟩
    have hrow := (RowAt.new w 89 #[.bool true, .int .i64 (E : Int), .int .u64 (F : Int)]).below hb1 (by simp)
    have hbw := ((Below.refl w.heap.size w).alloc (Nat.le_refl _) (.cells #[.bool true, .int .i64 (E : Int), .int .u64 (F : Int)] 89)).trans (hb1.mono (by simp))
    clear hb1
    generalize hB : w.heap.size = B at *
    have HB := Lib.hid hB; clear hB
    have hc0 := hrow.cell0 0 (by simp)
    have hc1 := hrow.cell0 1 (by simp)
    have hc2 := hrow.cell0 2 (by simp)
    simp only [List.getElem_cons_zero, List.getElem_cons_succ] at hc0 hc1 hc2
    go_wp2_with fail
    go_quiet (fail)
    go_wp2_with fail
    go_quiet (fail)
    go_wp2_with fail
    go_ret2
    exact ⟨rfl, by rw [HB.out]; exact bdrewN hbw _⟩
theorem join_form_32 (E F : Nat) (hE : E < 2 ^ 8) (hF : F < 2 ^ 23) : ∃ E2 G G2 : Nat, G = E * 2 ^ 23 + F ∧ G2 = 2 ^ 31 + E * 2 ^ 23 + F ∧
    IntKind.u64.wrap ((E : Int) * 8388608) = (E2 : Int) ∧ bits .or .u64 (E2 : Int) (F : Int) = (G : Int) ∧ bits .or .u64 (G : Int) 2147483648 = (G2 : Int) := by
  have hsh : IntKind.u64.wrap ((E : Int) * 8388608) = ((E * 2 ^ 23 : Nat) : Int) := by
    rw [show ((E : Int) * 8388608) = ((E * 2 ^ 23 : Nat) : Int) by simp]; exact IntWalk.u64_in _ ⟨by omega, by omega⟩
  have hor : bits .or .u64 ((E * 2 ^ 23 : Nat) : Int) (F : Int) = ((E * 2 ^ 23 + F : Nat) : Int) := by
    rw [bits_or_u64_nat _ _ (by omega) (by omega), nat_join 23 _ _ (by simp) hF]
  have hneg : bits .or .u64 ((E * 2 ^ 23 + F : Nat) : Int) 2147483648 = ((2 ^ 31 + E * 2 ^ 23 + F : Nat) : Int) := by
    have := bits_or_u64_nat (E * 2 ^ 23 + F) 2147483648 (by omega) (by decide)
    rw [Nat.or_comm, nat_join 31 _ _ (by decide) (by omega)] at this
    rw [show ((2 ^ 31 + E * 2 ^ 23 + F : Nat)) = 2147483648 + (E * 2 ^ 23 + F) by omega]
    exact this
  exact ⟨_, _, _, rfl, rfl, hsh, hor, hneg⟩
set_option maxRecDepth 100000 in
theorem Join_32 (N E F : Nat) (w : World) (hN : N < 2) (hE : E < 2 ^ 8) (hF : F < 2 ^ 23) : Calls Tryd.prog 74 #[rval N E F, .int .i64 32] w fun e w' =>
    e = .returned (.tuple #[.int .u64 (N * 2 ^ 31 + E * 2 ^ 23 + F : Nat), .nilIface]) ∧ Below w.heap.size w w' := by
  have hEw : IntKind.u64.wrap (E : Int) = (E : Int) := IntWalk.u64_in _ ⟨by omega, by omega⟩
  have hw31 : IntKind.i64.wrap 31 = 31 := by decide
  have hk1 : IntKind.i64.wrap 256 = 256 := by decide
  have hk3 : IntKind.u64.wrap 8388608 = 8388608 := by decide
  have hk4 : IntKind.u64.wrap 2147483648 = 2147483648 := by decide
  have hE0 : decide ((E : Int) < 0) = false := by rw [decide_eq_false_iff_not]; omega
  have hE1 : (0 : Int) ≤ (E : Int) := by omega
  have hE2 : decide ((256 : Int) ≤ (E : Int)) = false := by rw [decide_eq_false_iff_not]; omega
  have hF2 : decide ((8388608 : Int) ≤ (F : Int)) = false := by rw [decide_eq_false_iff_not]; omega
  obtain ⟨E2, G, G2, hG, hG2, hsh, hor, hneg⟩ := join_form_32 E F hE hF
  obtain rfl | rfl : N = 0 ∨ N = 1 := by omega
  · rw [show 0 * 2 ^ 31 + E * 2 ^ 23 + F = G by omega]
    clear hneg hG hG2 hE hF
    unfold rval
    simp only [show (((0 : Nat) : Int) == 1) = false from rfl]
    go_enter Tryd.func74, Tryd.ntmps74
    go_wp2_with fail
    refine (form_32 _).mono ?_
    rintro e w1 ⟨rfl, hb1⟩
    have hrow := (RowAt.new w 89 #[.bool false, .int .i64 (E : Int), .int .u64 (F : Int)]).below hb1 (by simp)
    have hbw := ((Below.refl w.heap.size w).alloc (Nat.le_refl _) (.cells #[.bool false, .int .i64 (E : Int), .int .u64 (F : Int)] 89)).trans (hb1.mono (by simp))
    clear hb1
    generalize hB : w.heap.size = B at *
    have HB := Lib.hid hB; clear hB
    have hc0 := hrow.cell0 0 (by simp)
    have hc1 := hrow.cell0 1 (by simp)
    have hc2 := hrow.cell0 2 (by simp)
    simp only [List.getElem_cons_zero, List.getElem_cons_succ] at hc0 hc1 hc2
    go_wp2_with fail
    go_quiet (fail)
    go_wp2_with fail
    go_quiet (fail)
    go_wp2_with fail
    go_ret2
    exact ⟨rfl, by rw [HB.out]; exact bdrewN hbw _⟩
  · rw [show 1 * 2 ^ 31 + E * 2 ^ 23 + F = G2 by omega]
    clear hG hG2 hE hF
    unfold rval
    simp only [show (((1 : Nat) : Int) == 1) = true from rfl]
    go_enter Tryd.func74, Tryd.ntmps74
    go_wp2_with fail
    refine (form_32 _).mono ?_
    rintro e w1 ⟨rfl, hb1⟩
    have hrow := (RowAt.new w 89 #[.bool true, .int .i64 (E : Int), .int .u64 (F : Int)]).below hb1 (by simp)
    have hbw := ((Below.refl w.heap.size w).alloc (Nat.le_refl _) (.cells #[.bool true, .int .i64 (E : Int), .int .u64 (F : Int)] 89)).trans (hb1.mono (by simp))
    clear hb1
    generalize hB : w.heap.size = B at *
    have HB := Lib.hid hB; clear hB
    have hc0 := hrow.cell0 0 (by simp)
    have hc1 := hrow.cell0 1 (by simp)
    have hc2 := hrow.cell0 2 (by simp)
    simp only [List.getElem_cons_zero, List.getElem_cons_succ] at hc0 hc1 hc2
    go_wp2_with fail
    go_quiet (fail)
    go_wp2_with fail
    go_quiet (fail)
    go_wp2_with fail
    go_ret2
    exact ⟨rfl, by rw [HB.out]; exact bdrewN hbw _⟩
end Go.Proofs.YtnldobfafaajjaaDoor
