/- Contracts of package digits: Digit, Print. -/
import Derived.Test.YtnmbakibiaedhaaDoorSlReverseB
import Derived.Test.YtnmbakibiaedhaaDoorInfo
import Derived.Test.YtnmbakibiaedhaaDoorPlainDigits
namespace Go.Proofs.YtnmbakibiaedhaaDoor
open Go.RowKit
set_option linter.unusedVariables false
set_option linter.unusedSimpArgs false
namespace Keys
/-- what a byte is as a digit -/
def dig (c : Nat) : Int := if 48 ≤ c ∧ c ≤ 57 then (c : Int) - 48 else if 97 ≤ c ∧ c ≤ 102 then (c : Int) - 97 + 10 else if 65 ≤ c ∧ c ≤ 70 then (c : Int) - 65 + 10 else -1
end Keys
set_option maxRecDepth 100000 in
theorem Digit_any (c : Nat) (w : World) (h : c < 256) :
    Calls Tryd.prog 115 #[.int .u8 (c : Int)] w fun e w' => e = .returned (.int .i64 (Keys.dig c)) ∧ w = w' := by
  unfold Keys.dig
  by_cases h1 : 48 ≤ c ∧ c ≤ 57
  · have a1 : 48 ≤ c := h1.1
    have a2 : c ≤ 57 := h1.2
    rw [if_pos h1]
    clear h1
    go_enter Tryd.func115, Tryd.ntmps115
    go_wp2_with fail
    go_ret
    exact ⟨rfl, rfl⟩
  · rw [if_neg h1]
    have b1 : (decide ((48 : Int) ≤ (c : Int)) && decide ((c : Int) ≤ 57)) = false := by
      rw [Bool.and_eq_false_iff, decide_eq_false_iff_not, decide_eq_false_iff_not]; omega
    by_cases h2 : 97 ≤ c ∧ c ≤ 102
    · have a1 : 97 ≤ c := h2.1
      have a2 : c ≤ 102 := h2.2
      rw [if_pos h2]
      clear h1 h2
      go_enter Tryd.func115, Tryd.ntmps115
      go_wp2_with fail
      go_ret
      exact ⟨rfl, rfl⟩
    · rw [if_neg h2]
      by_cases h3 : 65 ≤ c ∧ c ≤ 70
      · have a1 : 65 ≤ c := h3.1
        have a2 : c ≤ 70 := h3.2
        rw [if_pos h3]
        clear h1 h2 h3
        go_enter Tryd.func115, Tryd.ntmps115
        go_wp2_with fail
        go_ret
        exact ⟨rfl, rfl⟩
      · rw [if_neg h3]
        go_enter Tryd.func115, Tryd.ntmps115
        go_wp2_with fail
        all_goals first | (go_ret; first | done | exact ⟨rfl, rfl⟩) | (exfalso; omega)
def lenOf : Value → Nat
  | .slice _ n _ => n
  | _ => 0
theorem Owns.fresh_row {w : World} {B : Nat} {e : TypeId} {size : Nat} {g n cap : Nat} {xs : List Value} (h : Owns w B e size (some ⟨g, 0, none⟩) n cap xs) : RowAt w g 0 e xs ∧ B ≤ g := ⟨h.row.2.2.2.2, h.row.2.1⟩
namespace Digits
/-- the digits from the right on -/
def le (b n j : Nat) : List UInt8 := (List.range j).map fun i => UInt8.ofNat (fig (dg b n i))
theorem le_length (b n j : Nat) : (le b n j).length = j := by simp [le]
theorem le_succ (b n j : Nat) : le b n (j + 1) = le b n j ++ [UInt8.ofNat (fig (dg b n j))] := by simp [le, List.range_succ]
theorem le_rev (b n j : Nat) : (le b n j).reverse = ds b n j := rfl
set_option maxRecDepth 100000 in
theorem fig_at (d : Nat) (h : d < 16) : ∀ w : World, (Instr.index 9 (.string ⟨#[48, 49, 50, 51, 52, 53, 54, 55, 56, 57, 97, 98, 99, 100, 101, 102]⟩) (.int .u64 (d : Nat))).run Tryd.prog w = .ok (.int .u8 (fig d : Nat)) w := by
  match d, h with
  | 0, _ => exact fun _ => by kernel_rfl
  | 1, _ => exact fun _ => by kernel_rfl
  | 2, _ => exact fun _ => by kernel_rfl
  | 3, _ => exact fun _ => by kernel_rfl
  | 4, _ => exact fun _ => by kernel_rfl
  | 5, _ => exact fun _ => by kernel_rfl
  | 6, _ => exact fun _ => by kernel_rfl
  | 7, _ => exact fun _ => by kernel_rfl
  | 8, _ => exact fun _ => by kernel_rfl
  | 9, _ => exact fun _ => by kernel_rfl
  | 10, _ => exact fun _ => by kernel_rfl
  | 11, _ => exact fun _ => by kernel_rfl
  | 12, _ => exact fun _ => by kernel_rfl
  | 13, _ => exact fun _ => by kernel_rfl
  | 14, _ => exact fun _ => by kernel_rfl
  | 15, _ => exact fun _ => by kernel_rfl
  | k + 16, h => omega
end Digits
set_option maxRecDepth 100000 in
set_option maxHeartbeats 1000000 in
theorem Print_any (n b wd : Nat) (w : World) (hn : n < 18446744073709551616) (hb : 2 ≤ b) (hb2 : b ≤ 16) (hw : wd ≤ 64) :
    Calls Tryd.prog 41 #[.int .u64 (n : Nat), .int .i64 (b : Nat), .int .i64 (wd : Nat)] w fun e w' => (∃ J, Digits.Wide b n (max wd 1) J ∧ e = .returned (.tuple #[.string (bstr (Digits.ds b n J)), .nilIface])) ∧ Below w.heap.size w w' := by
  have hbw : IntKind.u64.wrap (b : Int) = (b : Int) := by rw [IntKind.wrap_u64]; omega
  have hb0 : (b : Int) ≠ 0 := by omega
  obtain ⟨B, hB⟩ : ∃ B, B = w.heap.size := ⟨_, rfl⟩
  rw [← hB]
  have HB := Lib.hid hB; clear hB
  have hd1 : decide ((b : Int) < 2) = false := by rw [decide_eq_false_iff_not]; omega
  have hd2 : decide ((16 : Int) < (b : Int)) = false := by rw [decide_eq_false_iff_not]; omega
  have hd3 : decide ((wd : Int) < 0) = false := by rw [decide_eq_false_iff_not]; omega
  have hd4 : decide ((64 : Int) < (wd : Int)) = false := by rw [decide_eq_false_iff_not]; omega
  go_enter Tryd.func41, Tryd.ntmps41
  go_wp2_with fail
  go_loopw [0, 8] (fun v0 v8 wr => ∃ (j cap : Nat) (a : Option Addr), j ≤ 64 ∧ v0 = .int .u64 ((n / b ^ j : Nat) : Int) ∧ v8 = .slice a j cap ∧ Hid (Owns wr B 5 1 a j cap (bvals (Digits.le b n j))) ∧ Hid (∀ k, k < j → ¬ (max wd 1 ≤ k ∧ n / b ^ k = 0)) ∧ Below B w wr) (fun _ v8 _ => 65 - lenOf v8)
  case atStart => exact ⟨0, 0, none, by omega, by rw [Nat.pow_zero, Nat.div_one], rfl, Lib.hid (Owns.nil _ _ _ _), Lib.hid (fun k h => by omega), Below.refl _ _⟩
  case round =>
    obtain ⟨j, cap, a, hj, rfl, rfl, HO, HN, hbe⟩ := hrel
    by_cases hstop : max wd 1 ≤ j ∧ n / b ^ j = 0
    · have hwide := Digits.Wide.of b n (max wd 1) j hb hstop.1 hstop.2 HN.out
      have HW := Lib.hid hwide; clear hwide
      rw [hstop.2]
      have e1 : decide (j < wd) = false := by rw [decide_eq_false_iff_not]; omega
      have e2 : ((j : Int) == 0) = false := by rw [beq_eq_false_iff_ne]; omega
      have hj1 : 1 ≤ j := by omega
      clear hstop
      cases a with
      | none => have := HO.out.of_none; omega
      | some x =>
        obtain ⟨h1, h2, h3, h4, h5⟩ := HO.out.row
        rw [h1]
        generalize x.block = g at *
        have hrev := Reverse_bytes g j cap 5 (Digits.le b n j) wr (Digits.le_length _ _ _) (by omega) h5
        have HR := Lib.hid hrev; clear hrev
        go_wp2_with fail
        refine HR.out.mono ?_
        rintro e w1 ⟨rfl, hrow, hg⟩
        rw [Digits.le_rev] at hrow
        have hstr := run_string_of 95 5 9 Tryd.underlying95 Tryd.underlying5 Tryd.underlying9 hrow j cap (Digits.ds_length _ _ _).symm
        go_wp2_with fail
        go_ret2
        exact ⟨⟨j, HW.out, rfl⟩, hbe.grown hg (by rw [HB.out]; exact hbe.size) (fun k e => by cases e; exact h2)⟩
    · have hj64 : j < 64 := by
        rcases Nat.lt_or_ge j 64 with h | h
        · exact h
        · exfalso
          obtain rfl : j = 64 := by omega
          exact hstop ⟨by omega, (Digits.div_zero_iff b n 64 hb).mpr (Nat.lt_of_lt_of_le hn (Nat.pow_le_pow_left hb 64))⟩
      have hN2 : ∀ k, k < j + 1 → ¬ (max wd 1 ≤ k ∧ n / b ^ k = 0) := fun k hk => by
        by_cases h : k = j
        · rw [h]; exact hstop
        · exact HN.out k (by omega)
      have HN2 := Lib.hid hN2; clear hN2
      have hdiv : (n / b ^ j) / b = n / b ^ (j + 1) := by rw [Nat.pow_succ, ← Nat.div_div_eq_div_mul]
      have hfig := Digits.fig_at (n / b ^ j % b) (Nat.lt_of_lt_of_le (Nat.mod_lt _ (by omega)) hb2)
      have hft : ((Digits.fig (n / b ^ j % b) : Nat) : Int) = (((UInt8.ofNat (Digits.fig (Digits.dg b n j))).toNat : Nat) : Int) := by
        rw [Digits.fig_toNat (Digits.dg b n j) (Nat.lt_of_lt_of_le (Digits.dg_lt b n j hb) hb2)]; rfl
      rw [hft, show ((n / b ^ j % b : Nat) : Int) = ((n / b ^ j : Nat) : Int) % (b : Int) from by simp] at hfig
      have hle := Digits.le_succ b n j
      generalize UInt8.ofNat (Digits.fig (Digits.dg b n j)) = fg at *
      generalize Digits.le b n j = L0 at *
      have hNlt : n / b ^ j < 18446744073709551616 := Nat.lt_of_le_of_lt (Nat.div_le_self _ _) hn
      generalize n / b ^ j = N0 at *
      obtain ⟨q1, hq1⟩ : ∃ q : Bool, decide (0 < N0) = q := ⟨_, rfl⟩
      obtain ⟨q2, hq2⟩ : ∃ q : Bool, decide (j < wd) = q := ⟨_, rfl⟩
      obtain ⟨q3, hq3⟩ : ∃ q : Bool, ((j : Int) == 0) = q := ⟨_, rfl⟩
      have hany : q1 = true ∨ q1 = false ∧ q2 = true ∨ q1 = false ∧ q2 = false ∧ q3 = true := by
        cases q1 with
        | true => exact .inl rfl
        | false =>
          cases q2 with
          | true => exact .inr (.inl ⟨rfl, rfl⟩)
          | false =>
            cases q3 with
            | true => exact .inr (.inr ⟨rfl, rfl, rfl⟩)
            | false =>
              exfalso
              rw [decide_eq_false_iff_not] at hq1 hq2
              rw [beq_eq_false_iff_ne] at hq3
              exact hstop ⟨by omega, by omega⟩
      have HS := Lib.hid hstop; clear hstop
      have HD := Lib.hid hdiv; clear hdiv
      have HL := Lib.hid hle; clear hle
      clear hft
      have hbB : B ≤ wr.heap.size := by have := hbe.size; have := HB.out; omega
      rcases hany with rfl | ⟨rfl, rfl⟩ | ⟨rfl, rfl, rfl⟩
      · go_wp2_with (with_reducible refine wpList_push _ rfl _ _ 95 rfl B 5 (.int .u8 0) 1 1 Tryd.underlying95 infoU8 rfl (by decide) a j cap _ rfl HO.out [.int .u8 (fg.toNat : Int)] rfl (by simp [Value.oneCell']) rfl (by unfold maxLen; omega) (by omega) hbB ?_; intro a' cap' w' hown' hgrow hloc hsz' hex)
        go_roundw
        case rel =>
          refine ⟨j + 1, cap', a', by omega, val_int (by have := Nat.div_le_self N0 b; rw [IntKind.wrap_u64, ← Int.natCast_ediv, ← HD.out]; generalize N0 / b = q at *; omega), rfl, ?_, HN2, below_blk hbe HO.out (Nat.le_refl _) hbB hgrow⟩
          have he : bvals L0 ++ [Value.int .u8 (fg.toNat : Int)] = bvals (Digits.le b n (j + 1)) := by rw [HL.out]; simp [bvals, bval]
          rw [← he]; exact Lib.hid hown'
        case measure => simp [lenOf]; omega
      · go_wp2_with (with_reducible refine wpList_push _ rfl _ _ 95 rfl B 5 (.int .u8 0) 1 1 Tryd.underlying95 infoU8 rfl (by decide) a j cap _ rfl HO.out [.int .u8 (fg.toNat : Int)] rfl (by simp [Value.oneCell']) rfl (by unfold maxLen; omega) (by omega) hbB ?_; intro a' cap' w' hown' hgrow hloc hsz' hex)
        go_roundw
        case rel =>
          refine ⟨j + 1, cap', a', by omega, val_int (by have := Nat.div_le_self N0 b; rw [IntKind.wrap_u64, ← Int.natCast_ediv, ← HD.out]; generalize N0 / b = q at *; omega), rfl, ?_, HN2, below_blk hbe HO.out (Nat.le_refl _) hbB hgrow⟩
          have he : bvals L0 ++ [Value.int .u8 (fg.toNat : Int)] = bvals (Digits.le b n (j + 1)) := by rw [HL.out]; simp [bvals, bval]
          rw [← he]; exact Lib.hid hown'
        case measure => simp [lenOf]; omega
      · go_wp2_with (with_reducible refine wpList_push _ rfl _ _ 95 rfl B 5 (.int .u8 0) 1 1 Tryd.underlying95 infoU8 rfl (by decide) a j cap _ rfl HO.out [.int .u8 (fg.toNat : Int)] rfl (by simp [Value.oneCell']) rfl (by unfold maxLen; omega) (by omega) hbB ?_; intro a' cap' w' hown' hgrow hloc hsz' hex)
        go_roundw
        case rel =>
          refine ⟨j + 1, cap', a', by omega, val_int (by have := Nat.div_le_self N0 b; rw [IntKind.wrap_u64, ← Int.natCast_ediv, ← HD.out]; generalize N0 / b = q at *; omega), rfl, ?_, HN2, below_blk hbe HO.out (Nat.le_refl _) hbB hgrow⟩
          have he : bvals L0 ++ [Value.int .u8 (fg.toNat : Int)] = bvals (Digits.le b n (j + 1)) := by rw [HL.out]; simp [bvals, bval]
          rw [← he]; exact Lib.hid hown'
        case measure => simp [lenOf]; omega
end Go.Proofs.YtnmbakibiaedhaaDoor
