/- The fact keyed; the law KeysTimes: the walk. -/
import Derived.Test.YtmmkbjinkdgdbaaKeysH
import Derived.Test.YtmmkbjinkdgdbaaKeysM
namespace Go.Proofs.Ytmmkbjinkdgdbaa
open Go.RowKit
set_option linter.unusedVariables false
set_option linter.unusedSimpArgs false
/-- Parse at a text whose command has no argument -/
theorem Parse_bare (l : List UInt8) (w : World) (hl : l.length ≤ 1000) (reg n op move what : Nat) (rest : List UInt8) (u : Nat) (hp : Keys.parse l = (⟨reg, n, op, move, []⟩, rest, what)) (hu : u = l.length - rest.length) :
    Calls Try.prog 25 #[.string (bstr l)] w fun e w' => e = .returned (.tuple #[.agg #[.int .u8 (reg : Int), .int .i64 (n : Int), .int .u8 (op : Int), .int .u8 (move : Int), .string ⟨#[]⟩], .int .i64 (u : Int), .int .i64 (what : Int)]) ∧ Below w.heap.size w w' := by
  refine (Parse_any (bstr l) w (by rw [bstr_size]; exact hl)).mono ?_
  rintro e w' ⟨arg, ha, he, hb⟩
  rw [bstr_data, hp] at ha he
  simp only at ha he
  obtain rfl : arg = ⟨#[]⟩ := ByteArray.ext (Array.ext' ha)
  rw [bstr_size] at he
  refine ⟨?_, hb⟩
  rw [he, hu]
  rfl
set_option maxRecDepth 100000 in
theorem keyed_any (w : World) : Calls Try.prog 24 #[] w fun e w' => e = .returned (.bool true) ∧ Below w.heap.size w w' := by
  have h := fun w => Parse_bare [34, 97, 51, 100, 50, 119, 120] w (by decide) 97 6 100 119 1 [120] 6 (by decide) rfl
  have H := Lib.hid h; clear h
  go_enter Try.func24, Try.ntmps24
  go_wp2_with fail
  refine (H.out _).mono ?_
  rintro e w1 ⟨rfl, hb1⟩
  go_wp2_with fail
  go_ret
  exact ⟨rfl, hb1.alloc hb1.size _⟩
theorem op_pick (p : Nat) (h : p < 3) : ∃ (o : UInt8) (l : List UInt8), Keys.isOp o ∧ (⟨#[100, 121, 99]⟩ : ByteArray).extract p 3 = bstr (o :: l) ∧ (bstr (o :: l)).extract 0 1 = bstr [o] ∧ 3 - p = (o :: l).length := by
  have : p = 0 ∨ p = 1 ∨ p = 2 := by omega
  rcases this with rfl | rfl | rfl
  · exact ⟨100, [121, 99], .inl rfl, rfl, rfl, rfl⟩
  · exact ⟨121, [99], .inr (.inl rfl), rfl, rfl, rfl⟩
  · exact ⟨99, [], .inr (.inr rfl), rfl, rfl, rfl⟩
theorem move_pick (p : Nat) (h : p < 8) : ∃ (o : UInt8) (l : List UInt8), Keys.isMove o ∧ (⟨#[104, 108, 106, 107, 119, 98, 110, 78]⟩ : ByteArray).extract p 8 = bstr (o :: l) ∧ (bstr (o :: l)).extract 0 1 = bstr [o] ∧ 8 - p = (o :: l).length := by
  have : p = 0 ∨ p = 1 ∨ p = 2 ∨ p = 3 ∨ p = 4 ∨ p = 5 ∨ p = 6 ∨ p = 7 := by omega
  rcases this with rfl | rfl | rfl | rfl | rfl | rfl | rfl | rfl
  · exact ⟨104, [108, 106, 107, 119, 98, 110, 78], .inl rfl, rfl, rfl, rfl⟩
  · exact ⟨108, [106, 107, 119, 98, 110, 78], .inr (.inl rfl), rfl, rfl, rfl⟩
  · exact ⟨106, [107, 119, 98, 110, 78], .inr (.inr (.inl rfl)), rfl, rfl, rfl⟩
  · exact ⟨107, [119, 98, 110, 78], .inr (.inr (.inr (.inl rfl))), rfl, rfl, rfl⟩
  · exact ⟨119, [98, 110, 78], .inr (.inr (.inr (.inr (.inl rfl)))), rfl, rfl, rfl⟩
  · exact ⟨98, [110, 78], .inr (.inr (.inr (.inr (.inr (.inl rfl))))), rfl, rfl, rfl⟩
  · exact ⟨110, [78], .inr (.inr (.inr (.inr (.inr (.inr (.inl rfl)))))), rfl, rfl, rfl⟩
  · exact ⟨78, [], .inr (.inr (.inr (.inr (.inr (.inr (.inr rfl)))))), rfl, rfl, rfl⟩
set_option maxRecDepth 100000 in
set_option maxHeartbeats 1000000 in
theorem KeysTimes_walk (n m : Int) (op move : Nat) (hn0 : -9223372036854775808 ≤ n) (hn1 : n ≤ 9223372036854775807) (hm0 : -9223372036854775808 ≤ m) (hm1 : m ≤ 9223372036854775807) (ho : op < 256) (hv : move < 256) (w : World) :
    Calls Try.prog 6 #[.int .i64 n, .int .i64 m, .int .u8 (op : Nat), .int .u8 (move : Nat)] w fun e w' => e = .returned (.bool true) ∧ Below w.heap.size w w' := by
  have hn := pickN_lt n 90 (by decide)
  have hm := pickN_lt m 90 (by decide)
  have hp := pickN_lt (op : Int) 3 (by decide)
  have hq := pickN_lt (move : Int) 8 (by decide)
  have pn := fun w => pick_at n 90 90 w rfl (by decide) (by decide)
  have pm := fun w => pick_at m 90 90 w rfl (by decide) (by decide)
  have po := fun w => pick_at (op : Int) 3 3 w rfl (by decide) (by decide)
  have pv := fun w => pick_at (move : Int) 8 8 w rfl (by decide) (by decide)
  generalize pickN n 90 = N at *
  generalize pickN m 90 = M at *
  generalize pickN (op : Int) 3 = p at *
  generalize pickN (move : Int) 8 = q at *
  obtain ⟨o, lo, io, eo, eo1, so⟩ := op_pick p hp
  obtain ⟨v, lv, iv, ev, ev1, sv⟩ := move_pick q hq
  have d1 := fun w => decimal_any (N + 1) w (by omega)
  have d2 := fun w => decimal_any (M + 1) w (by omega)
  rw [Keys.decL_dec _ (by omega), show ((N + 1 : Nat) : Int) = 1 + (N : Int) by omega] at d1
  rw [Keys.decL_dec _ (by omega), show ((M + 1 : Nat) : Int) = 1 + (M : Int) by omega] at d2
  have hdl1 : (Keys.dec (N + 1)).length ≤ 2 := by unfold Keys.dec; split <;> simp
  have hdl2 : (Keys.dec (M + 1)).length ≤ 2 := by unfold Keys.dec; split <;> simp
  have e2 := Keys.parse_two (N + 1) (M + 1) o v (by omega) (by omega) (by omega) (by omega) io iv
  have e1 := Keys.parse_one (N + 1) v (by omega) (by omega) iv
  have hP : (N + 1) * (M + 1) ≤ 90 * 90 := Nat.mul_le_mul (by omega) (by omega)
  have hmul : (1 + (N : Int)) * (1 + (M : Int)) = (((N + 1) * (M + 1) : Nat) : Int) := by rw [Int.natCast_mul]; congr 1 <;> omega
  generalize (N + 1) * (M + 1) = P at *
  have hmw : IntKind.i64.wrap ((1 + (N : Int)) * (1 + (M : Int))) = (P : Int) := by rw [hmul]; exact IntWalk.i64_in _ ⟨by omega, by omega⟩
  clear hmul
  have hp2 := fun w => Parse_bare _ w (by simp; omega) _ _ _ _ _ _ (Keys.dec (N + 1) ++ o :: (Keys.dec (M + 1) ++ [v])).length e2 (by simp)
  have hp1 := fun w => Parse_bare _ w (by simp; omega) _ _ _ _ _ _ (Keys.dec (N + 1) ++ [v]).length e1 (by simp)
  clear e1 e2
  have hv0 := Keys.move_pos v iv
  have hvl : v.toNat < 256 := v.toNat_lt
  have m1 := fun w => Motion_any 0 P v.toNat o ⟨#[]⟩ w hvl
  have m2 := fun w => Motion_any 0 (N + 1) 0 v ⟨#[]⟩ w (by decide)
  rw [decide_eq_false hv0, Bool.false_and] at m1
  rw [Keys.goes_move v iv, Bool.and_true] at m2
  have m1' : ∀ w, Calls Try.prog 28 #[.agg #[.int .u8 0, .int .i64 (P : Int), .int .u8 (o.toNat : Int), .int .u8 (v.toNat : Int), .string ⟨#[]⟩]] w fun e w' => e = .returned (.bool false) ∧ Below w.heap.size w w' := m1
  have m2' : ∀ w, Calls Try.prog 28 #[.agg #[.int .u8 0, .int .i64 (1 + (N : Int)), .int .u8 (v.toNat : Int), .int .u8 0, .string ⟨#[]⟩]] w fun e w' => e = .returned (.bool true) ∧ Below w.heap.size w w' := fun w => by
    have := m2 w
    rw [show (1 : Int) + (N : Int) = ((N + 1 : Nat) : Int) by omega]
    exact this
  have e1N : ((N + 1 : Nat) : Int) = 1 + (N : Int) := by omega
  rw [e1N] at hp1
  clear m1 m2 hv0 hvl iv io e1N
  generalize (Keys.dec (N + 1) ++ o :: (Keys.dec (M + 1) ++ [v])).length = U2 at *
  generalize (Keys.dec (N + 1) ++ [v]).length = U1 at *
  have HP1 := Lib.hid hp1; clear hp1
  have HP2 := Lib.hid hp2; clear hp2
  have M1 := Lib.hid m1'; clear m1'
  have M2 := Lib.hid m2'; clear m2'
  have PN := Lib.hid pn; clear pn
  have PM := Lib.hid pm; clear pm
  have PO := Lib.hid po; clear po
  have PV := Lib.hid pv; clear pv
  have D1 := Lib.hid d1; clear d1
  have D2 := Lib.hid d2; clear d2
  go_enter Try.func6, Try.ntmps6
  go_wp2_with fail
  refine (keyed_any _).mono ?_
  rintro e w1 ⟨rfl, hb1⟩
  go_wp2_with fail
  refine (PN.out _).mono ?_
  rintro e w2 ⟨rfl, rfl⟩
  go_wp2_with fail
  refine (PM.out _).mono ?_
  rintro e w2 ⟨rfl, rfl⟩
  go_wp2_with fail
  refine (PO.out _).mono ?_
  rintro e w2 ⟨rfl, rfl⟩
  go_wp2_with fail
  refine (PV.out _).mono ?_
  rintro e w2 ⟨rfl, rfl⟩
  go_wp2_with fail
  refine (D1.out _).mono ?_
  rintro e w2 ⟨rfl, hb2⟩
  go_wp2_with fail
  refine (D2.out _).mono ?_
  rintro e w3 ⟨rfl, hb3⟩
  have hbA := hb1.trans ((hb2.trans (hb3.mono hb2.size)).mono hb1.size)
  clear hb1 hb2 hb3
  go_wp2_with fail
  with_reducible refine (HP2.out _).mono ?_
  rintro e w4 ⟨rfl, hb4⟩
  have hbB := hbA.trans (hb4.mono hbA.size)
  clear hbA hb4
  go_wp2_with fail
  have hr1 := RowAt.new w4 42 #[.int .u8 0, .int .i64 (P : Int), .int .u8 (o.toNat : Int), .int .u8 (v.toNat : Int), .string ⟨#[]⟩]
  have hbC := hbB.alloc hbB.size (.cells #[.int .u8 0, .int .i64 (P : Int), .int .u8 (o.toNat : Int), .int .u8 (v.toNat : Int), .string ⟨#[]⟩] 42)
  have hlt1 := hr1.lt
  generalize w4.alloc (.cells #[.int .u8 0, .int .i64 (P : Int), .int .u8 (o.toNat : Int), .int .u8 (v.toNat : Int), .string ⟨#[]⟩] 42) = w4a at *
  generalize w4.heap.size = G1 at *
  clear hbB
  refine (D1.out _).mono ?_
  rintro e w5 ⟨rfl, hb5⟩
  have hr1b := hr1.below hb5 hlt1
  have hbD := hbC.trans (hb5.mono hbC.size)
  clear hr1 hlt1 hb5 hbC
  have HR1 := Lib.hid hr1b; clear hr1b
  go_wp2_with fail
  with_reducible refine (HP1.out _).mono ?_
  rintro e w6 ⟨rfl, hb6⟩
  have hr1c := HR1.out.below hb6 HR1.out.lt
  have hbE := hbD.trans (hb6.mono hbD.size)
  clear hbD hb6 HR1
  have hr2 := RowAt.new w6 42 #[.int .u8 0, .int .i64 (1 + (N : Int)), .int .u8 (v.toNat : Int), .int .u8 0, .string ⟨#[]⟩]
  have hr1d := hr1c.alloc (.cells #[.int .u8 0, .int .i64 (1 + (N : Int)), .int .u8 (v.toNat : Int), .int .u8 0, .string ⟨#[]⟩] 42)
  have hbF := hbE.alloc hbE.size (.cells #[.int .u8 0, .int .i64 (1 + (N : Int)), .int .u8 (v.toNat : Int), .int .u8 0, .string ⟨#[]⟩] 42)
  have hlt2 := hr2.lt
  have hlt1 := hr1d.lt
  simp only [] at hr2 hr1d
  have c0 := hr1d.cell0 0 (by simp)
  have c1 := hr1d.cell0 1 (by simp)
  have c2 := hr1d.cell0 2 (by simp)
  have c3 := hr1d.cell0 3 (by simp)
  have c4 := hr1d.cell0 4 (by simp)
  simp only [List.getElem_cons_zero, List.getElem_cons_succ] at c0 c1 c2 c3 c4
  have d0 := hr2.cell0 0 (by simp)
  have d1 := hr2.cell0 1 (by simp)
  have d2 := hr2.cell0 2 (by simp)
  have d3 := hr2.cell0 3 (by simp)
  have d4 := hr2.cell0 4 (by simp)
  simp only [List.getElem_cons_zero, List.getElem_cons_succ] at d0 d1 d2 d3 d4
  have HR2 := Lib.hid hr2; clear hr2
  clear hr1c hr1d hbE
  go_wp2_with fail
  generalize w6.alloc (.cells #[.int .u8 0, .int .i64 (1 + (N : Int)), .int .u8 (v.toNat : Int), .int .u8 0, .string ⟨#[]⟩] 42) = w6a at *
  generalize w6.heap.size = G2 at *
  with_reducible refine (M1.out _).mono ?_
  rintro e w7 ⟨rfl, hb7⟩
  have hr2b := HR2.out.below hb7 hlt2
  have hbG := hbF.trans (hb7.mono hbF.size)
  clear c0 c1 c2 c3 c4 d0 d1 d2 d3 d4 hbF hb7
  have d0 := hr2b.cell0 0 (by simp)
  have d1 := hr2b.cell0 1 (by simp)
  have d2 := hr2b.cell0 2 (by simp)
  have d3 := hr2b.cell0 3 (by simp)
  have d4 := hr2b.cell0 4 (by simp)
  simp only [List.getElem_cons_zero, List.getElem_cons_succ] at d0 d1 d2 d3 d4
  clear hr2b
  go_wp2_with fail
  with_reducible refine (M2.out _).mono ?_
  rintro e w8 ⟨rfl, hb8⟩
  go_wp2_with fail
  go_ret
  exact ⟨rfl, hbG.trans (hb8.mono hbG.size)⟩
end Go.Proofs.Ytmmkbjinkdgdbaa
