/- What the small functions of package word and the law's own helpers hand back, whatever the input. No condition. -/
import Derived.Test.YtlpockgofejogaaChecked
import Derived.Test.YtlpockgofejogaaPlainWord
namespace Go.Proofs.Ytlpockgofejogaa
open Go.RowKit
set_option linter.unusedVariables false


theorem pick_any (a n : Int) (w : World) (hn : 1 ≤ n) (hn' : n ≤ 4611686018427387904) :
    Calls Try.prog 17 #[.int .i64 a, .int .i64 n] w fun e w' => e = .returned (.int .i64 (pickI a n)) ∧ w = w' := by
  go_enter Try.func17, Try.ntmps17
  go_wp2_with fail
  go_ret
  refine ⟨ret_int ?_, rfl⟩
  show wrap64 ((IntKind.u64.wrap a).tmod n) = pickI a n
  rw [IntKind.wrap_u64, Int.tmod_eq_emod_of_nonneg (by omega)]
  unfold pickI
  have h1 := Int.emod_nonneg (a % 18446744073709551616) (show n ≠ 0 by omega)
  have h2 := Int.emod_lt_of_pos (a % 18446744073709551616) (show 0 < n by omega)
  exact IntWalk.wrap64_in _ ⟨by omega, by omega⟩

theorem pick_nat (a : Int) (n : Nat) (w : World) (hn : 1 ≤ n) (hn' : n ≤ 4611686018427387904) :
    Calls Try.prog 17 #[.int .i64 a, .int .i64 (n : Nat)] w fun e w' => e = .returned (.int .i64 (pickN a n : Nat)) ∧ w = w' := by
  rw [pickN_cast a n hn]
  exact pick_any a n w (by omega) (by omega)

theorem wide_any (a : Int) (w : World) :
    Calls Try.prog 16 #[.int .i64 a] w fun e w' => e = .returned (.int .i64 (wideN a : Nat)) ∧ w = w' := by
  have h := pickN_lt a 4 (by omega)
  have hw : IntKind.i64.wrap (2 ^ pickN a 4) = ((wideN a : Nat) : Int) := by
    unfold wideN
    obtain h | h | h | h : pickN a 4 = 0 ∨ pickN a 4 = 1 ∨ pickN a 4 = 2 ∨ pickN a 4 = 3 := by omega
    all_goals (rw [h]; decide)
  have H := Lib.hid hw; clear hw
  go_enter Try.func16, Try.ntmps16
  go_wp2_with fail
  refine (pick_nat a 4 _ (by omega) (by omega)).mono ?_
  rintro e w' ⟨rfl, rfl⟩
  generalize hp : pickN a 4 = p at *
  have HP := Lib.hid hp; clear hp
  go_wp2_with fail
  go_ret
  refine ⟨ret_int ?_, rfl⟩
  rw [← H.out]
  exact (IntWalk.i64_left _).symm

theorem place_any (k n o : Nat) (w : World) (h1 : k < n) (h2 : n ≤ 8) :
    Calls Try.prog 55 #[.int .i64 k, .int .i64 n, .int .i64 o] w fun e w' => e = .returned (.int .i64 (plc k n o : Nat)) ∧ w = w' := by
  by_cases ho : o = 1
  · subst ho
    have hp : ((plc k n 1 : Nat) : Int) = (n : Int) - 1 - k := by unfold plc; simp; omega
    have HP := Lib.hid hp; clear hp
    go_enter Try.func55, Try.ntmps55
    go_wp2_with fail
    go_ret
    exact ⟨ret_int HP.out.symm, rfl⟩
  · have hp : ((plc k n o : Nat) : Int) = (k : Int) := by unfold plc; rw [if_neg ho]
    have HP := Lib.hid hp; clear hp
    have ho' : ((o : Int) == 1) = false := by simp; omega
    go_enter Try.func55, Try.ntmps55
    go_wp2_with fail
    go_ret
    exact ⟨ret_int HP.out.symm, rfl⟩

theorem right_yes (n o : Nat) (w : World) (hn : n = 1 ∨ n = 2 ∨ n = 4 ∨ n = 8) (ho : o = 0 ∨ o = 1) :
    Calls Try.prog 54 #[.int .i64 n, .int .i64 o] w fun e w' => e = .returned (.bool true) ∧ w = w' := by
  rcases hn with rfl | rfl | rfl | rfl <;> rcases ho with rfl | rfl
  all_goals
    go_enter Try.func54, Try.ntmps54
    go_wp2_with fail
    go_ret
    exact ⟨rfl, rfl⟩

theorem Try.info5 : (Try.prog.info? 5).map (fun i => (i.zero, i.size, i.bytes)) = some (some (.int .u8 0), 1, 1) := by kernel_rfl

set_option maxRecDepth 100000 in
theorem Put_any (n wd o : Nat) (w : World) (hn : wd = 1 ∨ wd = 2 ∨ wd = 4 ∨ wd = 8) (ho : o = 0 ∨ o = 1) :
    Calls Try.prog 18 #[.int .u64 n, .int .i64 wd, .int .i64 o] w fun e w' => e = .returned (.tuple #[.string (bstr (putB n wd o)), .nilIface]) ∧ Below w.heap.size w w' := by
  obtain ⟨i0, hi0, hz0, hz1, hz2⟩ := info_parts Try.info5
  have hw8 : wd ≤ 8 := by omega
  have hw1 : 1 ≤ wd := by omega
  go_enter Try.func18, Try.ntmps18
  go_wp2_with (first
    | (go_at_call 54; refine (right_yes wd o _ hn ho).mono ?_; rintro e w' ⟨rfl, rfl⟩)
    | (at_make; refine wpList_make_full _ rfl _ _ _ rfl w.heap.size 5 i0 (.int .u8 0) 1 Try.underlying57 hi0 hz0 hz1 .i64 .i64 wd wd wd rfl rfl rfl rfl (by rw [hz2]; omega) (by unfold maxLen; omega) (Nat.le_refl _) ?_; intro w1 hown1 hgrow1))
  have hmc : (madeCells (Value.int IntKind.u8 0).cells (wd * 1)).toList = putRow n wd o 0 := by
    rw [putRow_zero, Nat.mul_one]; exact toList_madeCells_one _ _
  rw [hmc] at hown1
  clear hmc
  have hb1 : Below w.heap.size w w1 := (Below.refl _ _).grown hgrow1 (Nat.le_refl _) (by simp)
  clear hgrow1
  generalize hB : w.heap.size = B at *
  have HB := Lib.hid hB; clear hB
  go_loopw [18] (fun i wr => ∃ k : Nat, k ≤ wd ∧ i = .int .i64 k ∧ wr.ownsRow B 5 1 (.slice (some ⟨B, 0, none⟩) wd wd) wd (putRow n wd o k) ∧ Below B w wr) (fun i _ => wd - (intOf i).toNat)
  case atStart => exact ⟨0, by omega, rfl, hown1, hb1⟩
  case round =>
    obtain ⟨k, hk, rfl, hown, hb⟩ := hrel
    clear hown1 hb1
    by_cases hlt : k < wd
    · have hp := plc_lt (o := o) hlt
      obtain ⟨v0, hcell⟩ : ∃ v, wr.cell? ⟨B, plc k wd o, none⟩ = some v :=
        ⟨_, (hown.cellAt (plc k wd o) (by omega)).trans (List.getElem?_eq_getElem (by rw [putRow_length]; exact hp))⟩
      have hfr := hown.frozenAt (plc k wd o)
      have hb5 := byteOf_shr n k
      rw [← IntKind.wrap_u8'] at hb5
      have hs1 : IntKind.i64.wrap (8 * (k : Int)) = 8 * (k : Int) := IntWalk.i64_in _ ⟨by omega, by omega⟩
      have hs2 : (0 : Int) ≤ 8 * (k : Int) := by omega
      have hs3 : 8 * (k : Int) ≤ 64 := by omega
      have hs4 : (8 * (k : Int)).toNat = 8 * k := by omega
      have hs5 : ((plc k wd o : Nat) : Int) < (wd : Int) := by omega
      have hstep := putRow_step n wd o k hlt
      have hset := hown.stored (plc k wd o) (.int .u8 ((byteOf n k : Nat) : Int))
      rw [hstep] at hset
      have HSET := Lib.hid hset
      clear hstep hset
      go_wp2_with fail
      go_still_tail 11, (by kernel_rfl)
      still_call ((place_any k wd o _ hlt hw8).mono fun _ _ h => ⟨h.1, h.2.symm⟩)
      repeat still_step
      refine wpStill_nil ?_
      change wpList _ _ _ _ _ wr.drew
      go_wp2_with fail
      go_roundw
      case rel => exact ⟨k + 1, by omega, by go_num, HSET.out.1, (hb.setCell (p := ⟨B, plc k wd o, none⟩) (Nat.le_refl _) _).drew⟩
      case measure => simp [intOf]; omega
    · obtain rfl : k = wd := by omega
      have hconv := run_convert_bytes_arg (P := Try.prog) wr 57 5 Try.underlying57 Try.underlying5 B 0 k k ((List.range k).map fun j => ((putCell n k o k j : Nat) : Int)) (by simp)
        (fun i hi => by rw [Nat.zero_add, hown.cellAt i (by omega)]; simp [putRow, hi]) 9 Try.underlying9
      clear hown
      generalize hS : strOfNums ((List.range k).map fun j => ((putCell n k o k j : Nat) : Int)) = S at hconv
      have HS := Lib.hid hS; clear hS
      go_wp2_with fail
      go_ret2
      refine ⟨?_, by rw [HB.out]; exact hb⟩
      rw [← HS.out, putB_of_row]
      rfl

set_option maxRecDepth 100000 in
theorem Get_any (s : ByteArray) (a wd o : Nat) (w : World) (hn : wd = 1 ∨ wd = 2 ∨ wd = 4 ∨ wd = 8) (ho : o = 0 ∨ o = 1) (ha : a + wd ≤ s.size) (hs : s.size ≤ maxLen) :
    Calls Try.prog 19 #[.string s, .int .i64 a, .int .i64 wd, .int .i64 o] w fun e w' => e = .returned (.tuple #[.int .u64 (getN s.data.toList a wd o wd : Nat), .nilIface]) ∧ w = w' := by
  unfold maxLen at hs
  have hw8 : wd ≤ 8 := by omega
  have hw1 : 1 ≤ wd := by omega
  go_enter Try.func19, Try.ntmps19
  go_wp2_with (go_at_call 54; refine (right_yes wd o _ hn ho).mono ?_; rintro e w' ⟨rfl, rfl⟩)
  go_loop [10, 29] (fun n i => ∃ k : Nat, k ≤ wd ∧ i = .int .i64 k ∧ n = .int .u64 (getN s.data.toList a wd o k : Nat)) (fun n i => wd - (intOf i).toNat)
  case atStart => exact ⟨0, by omega, rfl, rfl⟩
  case round =>
    obtain ⟨k, hk, rfl, rfl⟩ := hrel
    have hg := getN_lt s.data.toList a wd o k
    have hg8 := pow256_le (show k ≤ 8 by omega)
    generalize hG : getN s.data.toList a wd o k = G at *
    have HG := Lib.hid hG; clear hG
    by_cases hlt : k < wd
    · have hp := plc_lt (o := o) hlt
      go_wp2_with (go_at_call 55; refine (place_any k wd o _ hlt hw8).mono ?_; rintro e w' ⟨rfl, rfl⟩)
      go_round
      case rel => exact ⟨k + 1, by omega, by go_num, val_int (get_step s a wd o k G HG.out hg (by omega) (by omega))⟩
      case measure => simp [intOf]; omega
    · obtain rfl : k = wd := by omega
      go_wp2_with fail
      go_ret2
      exact ⟨by rw [HG.out]; rfl, rfl⟩

set_option maxRecDepth 100000 in
theorem Unsigned_any (n wd : Nat) (w : World) (hn : n < 18446744073709551616) (h1 : 1 ≤ wd) (h8 : wd ≤ 8) :
    Calls Try.prog 20 #[.int .u64 n, .int .i64 wd] w fun e w' => e = .returned (.int .u64 (unsN n wd : Nat)) ∧ w = w' := by
  obtain rfl | rfl | rfl | rfl | rfl | rfl | rfl | rfl : wd = 1 ∨ wd = 2 ∨ wd = 3 ∨ wd = 4 ∨ wd = 5 ∨ wd = 6 ∨ wd = 7 ∨ wd = 8 := by omega
  all_goals
    go_enter Try.func20, Try.ntmps20
    go_wp2_with fail
    go_ret
    refine ⟨ret_int ?_, rfl⟩
    unfold unsN
    first | (rw [IntKind.wrap_u64]; omega) | omega
set_option maxRecDepth 100000 in
theorem Signed_any (n wd : Nat) (w : World) (hn : n < 18446744073709551616) (h1 : 1 ≤ wd) (h8 : wd ≤ 8) :
    Calls Try.prog 21 #[.int .u64 n, .int .i64 wd] w fun e w' => e = .returned (.int .i64 (sgnI n wd)) ∧ w = w' := by
  obtain rfl | rfl | rfl | rfl | rfl | rfl | rfl | rfl : wd = 1 ∨ wd = 2 ∨ wd = 3 ∨ wd = 4 ∨ wd = 5 ∨ wd = 6 ∨ wd = 7 ∨ wd = 8 := by omega
  all_goals
    go_enter Try.func21, Try.ntmps21
    go_wp2_with fail
    go_ret
    refine ⟨ret_int ?_, rfl⟩
    unfold sgnI unsN wrap64
    split <;> first | (rw [IntKind.wrap_u64]; omega) | omega

set_option maxRecDepth 100000 in
theorem Fits_true (n : Int) (wd : Nat) (w : World) (lo : -9223372036854775808 ≤ n) (hi : n ≤ 9223372036854775807) (h1 : 1 ≤ wd) (h8 : wd ≤ 8) :
    Calls Try.prog 22 #[.int .i64 n, .int .i64 wd, .bool true] w fun e w' => e = .returned (.bool (sgnI (u64N n) wd == n)) ∧ w = w' := by
  have hu := u64N_wrap n
  have hul := u64N_lt n
  generalize u64N n = u at *
  go_enter Try.func22, Try.ntmps22
  go_wp2_with (go_at_call 21; refine (Signed_any u wd _ hul h1 h8).mono ?_; rintro e w' ⟨rfl, rfl⟩)
  go_ret
  exact ⟨rfl, rfl⟩
set_option maxRecDepth 100000 in
theorem Fits_false (n : Int) (wd : Nat) (w : World) (lo : -9223372036854775808 ≤ n) (hi : n ≤ 9223372036854775807) (h1 : 1 ≤ wd) (h8 : wd ≤ 8) :
    Calls Try.prog 22 #[.int .i64 n, .int .i64 wd, .bool false] w fun e w' => e = .returned (.bool (decide (0 ≤ n) && (((unsN (u64N n) wd : Nat) : Int) == ((u64N n : Nat) : Int)))) ∧ w = w' := by
  have hu := u64N_wrap n
  have hul := u64N_lt n
  generalize u64N n = u at *
  by_cases h0 : 0 ≤ n
  · have hd : decide (0 ≤ n) = true := by simpa using h0
    go_enter Try.func22, Try.ntmps22
    go_wp2_with (go_at_call 20; refine (Unsigned_any u wd _ hul h1 h8).mono ?_; rintro e w' ⟨rfl, rfl⟩)
    go_ret
    first | exact ⟨rfl, rfl⟩ | exact ⟨by rw [hd]; rfl, rfl⟩
  · have hd : decide (0 ≤ n) = false := by simpa using h0
    go_enter Try.func22, Try.ntmps22
    go_wp2_with fail
    go_ret
    first | exact ⟨rfl, rfl⟩ | exact ⟨by rw [hd]; rfl, rfl⟩

set_option maxRecDepth 100000 in
theorem Swap_any (n wd : Nat) (w : World) (hn : wd = 1 ∨ wd = 2 ∨ wd = 4 ∨ wd = 8) :
    Calls Try.prog 23 #[.int .u64 n, .int .i64 wd] w fun e w' => e = .returned (.tuple #[.int .u64 (getN (putB n wd 0) 0 wd 1 wd : Nat), .nilIface]) ∧ Below w.heap.size w w' := by
  have hw8 : wd ≤ 8 := by omega
  go_enter Try.func23, Try.ntmps23
  go_wp2_with fail
  refine (Put_any n wd 0 _ hn (by omega)).mono ?_
  rintro e w1 ⟨rfl, hb⟩
  go_wp2_with fail
  refine (Get_any (bstr (putB n wd 0)) 0 wd 1 _ hn (by omega) (by rw [bstr_size, putB_length]; omega) (by rw [bstr_size, putB_length]; unfold maxLen; omega)).mono ?_
  rintro e w2 ⟨rfl, rfl⟩
  go_wp2_with fail
  go_ret2
  exact ⟨rfl, hb⟩
end Go.Proofs.Ytlpockgofejogaa
