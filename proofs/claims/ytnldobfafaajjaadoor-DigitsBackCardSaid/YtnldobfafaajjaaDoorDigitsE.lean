/- The law DigitsShort. -/
import Derived.Test.YtnldobfafaajjaaDoorDigitsD
import Derived.Test.YtnldobfafaajjaaDoorPick
namespace Go.Proofs.YtnldobfafaajjaaDoor
open Go.RowKit
set_option linter.unusedVariables false
set_option linter.unusedSimpArgs false
namespace Digits
theorem ds_succ (b n j : Nat) : ds b n (j + 1) = UInt8.ofNat (fig (dg b n j)) :: ds b n j := by
  simp [ds, List.range_succ]
theorem mod_succ (b n j : Nat) : n % b ^ (j + 1) = n % b ^ j + b ^ j * dg b n j := by
  rw [Nat.pow_succ, Nat.mod_mul]
  rfl
theorem less (b : Nat) (hb : 2 ≤ b) (hb2 : b ≤ 16) (a c : Nat) : ∀ j, Op.bytesLess (ds b a j) (ds b c j) = decide (a % b ^ j < c % b ^ j)
  | 0 => by simp [ds, Op.bytesLess, Nat.mod_one]
  | j + 1 => by
    have ih := less b hb hb2 a c j
    have ha := dg_lt b a j hb
    have hc := dg_lt b c j hb
    have hma : a % b ^ j < b ^ j := Nat.mod_lt _ (Nat.pow_pos (by omega))
    have hmc : c % b ^ j < b ^ j := Nat.mod_lt _ (Nat.pow_pos (by omega))
    have fa := fig_toNat (dg b a j) (by omega)
    have fc := fig_toNat (dg b c j) (by omega)
    rw [ds_succ, ds_succ, mod_succ, mod_succ]
    unfold Op.bytesLess
    rw [ih]
    generalize a % b ^ j = A at *
    generalize c % b ^ j = C at *
    rcases Nat.lt_trichotomy (dg b a j) (dg b c j) with h | h | h
    · have hf := fig_mono h
      have h1 : UInt8.ofNat (fig (dg b a j)) < UInt8.ofNat (fig (dg b c j)) := by rw [UInt8.lt_iff_toNat_lt]; omega
      have hmul : b ^ j * dg b a j + b ^ j ≤ b ^ j * dg b c j := by
        rw [← Nat.mul_succ]; exact Nat.mul_le_mul_left _ h
      have h2 : A + b ^ j * dg b a j < C + b ^ j * dg b c j := by omega
      simp [h1, h2]
    · rw [h]
      simp
    · have hf := fig_mono h
      have h1 : ¬ UInt8.ofNat (fig (dg b a j)) < UInt8.ofNat (fig (dg b c j)) := by rw [UInt8.lt_iff_toNat_lt]; omega
      have h3 : UInt8.ofNat (fig (dg b c j)) < UInt8.ofNat (fig (dg b a j)) := by rw [UInt8.lt_iff_toNat_lt]; omega
      have hmul : b ^ j * dg b c j + b ^ j ≤ b ^ j * dg b a j := by
        rw [← Nat.mul_succ]; exact Nat.mul_le_mul_left _ h
      have h2 : ¬ A + b ^ j * dg b a j < C + b ^ j * dg b c j := by omega
      have h4 : UInt8.ofNat (fig (dg b a j)) ≠ UInt8.ofNat (fig (dg b c j)) := fun e => by
        have := congrArg UInt8.toNat e
        omega
      simp [h1, h2, h4]
theorem short (b : Nat) (hb : 2 ≤ b) (hb2 : b ≤ 16) (a c i j : Nat) (ha : Wide b a 1 i) (hc : Wide b c 1 j) :
    (decide (a < c) == (decide (i < j) || (i == j && Op.bytesLess (ds b a i) (ds b c j)))) = true := by
  rw [beq_iff_eq]
  rcases Nat.lt_trichotomy i j with h | h | h
  · have : a < c := by
      rcases Nat.lt_or_ge a c with h1 | h1
      · exact h1
      · have := hc.2.2 i ha.1 (Nat.lt_of_le_of_lt h1 ha.2.1); omega
    simp [this, h]
  · subst h
    rw [less b hb hb2, Nat.mod_eq_of_lt ha.2.1, Nat.mod_eq_of_lt hc.2.1]
    simp
  · have : ¬ a < c := by
      intro h1
      have := ha.2.2 j hc.1 (Nat.lt_trans h1 hc.2.1); omega
    have h2 : ¬ i < j := by omega
    have h3 : (i == j) = false := by rw [beq_eq_false_iff_ne]; omega
    simp [this, h2, h3]
/-- no nought ahead -/
theorem ahead (b n j : Nat) (hb : 2 ≤ b) (hb2 : b ≤ 16) (h : Wide b n 1 j) (hn : 0 < n) : ((ds b n j).getD 0 0).toNat ≠ 48 := by
  have hj := h.1
  rw [ds_get b n j 0 (by omega), Nat.sub_zero]
  have ht := top b n j hb h hn
  have hd := dg_lt b n (j - 1) hb
  rw [fig_toNat _ (by omega)]
  intro h0
  have : fig 0 = 48 := rfl
  have hm := fig_mono (c := 0) (d := dg b n (j - 1)) (by omega)
  omega
end Digits
set_option maxRecDepth 100000 in
set_option maxHeartbeats 1000000 in
theorem DigitsShort_walk (a c : Nat) (base : Int) (ha : a < 18446744073709551616) (hc : c < 18446744073709551616) (h1 : -9223372036854775808 ≤ base) (h2 : base ≤ 9223372036854775807) (w : World) (hg : ErrType w) :
    Calls Tryd.prog 6 #[.int .u64 (a : Nat), .int .u64 (c : Nat), .int .i64 base] w fun e w' => e = .returned (.bool true) ∧ Below w.heap.size w w' := by
  have hp := fun w => pick_at base 15 15 w rfl (by decide) (by decide)
  have hlt := pickN_lt base 15 (by decide)
  generalize pickN base 15 = p at *
  have hb : 2 + (p : Int) = ((2 + p : Nat) : Int) := by simp
  obtain ⟨b, hbe⟩ : ∃ b, b = 2 + p := ⟨_, rfl⟩
  rw [← hbe] at hb
  have hb2 : 2 ≤ b := by omega
  have hb16 : b ≤ 16 := by omega
  clear hbe
  have HP := Lib.hid hp; clear hp
  have HA := Lib.hid (fun w => Print_any a b 0 w ha hb2 hb16 (by decide))
  have HC := Lib.hid (fun w => Print_any c b 0 w hc hb2 hb16 (by decide))
  have HF := Lib.hid (figured_any w hg)
  have HB := Lib.hid hb; clear hb
  go_enter Tryd.func6, Tryd.ntmps6
  go_wp2_with fail
  refine HF.out.mono ?_
  rintro e w1 ⟨rfl, hb1⟩
  go_wp2_with fail
  refine (HP.out _).mono ?_
  rintro e w2 ⟨rfl, rfl⟩
  go_wp2_with fail
  rw [HB.out]
  refine (HA.out _).mono ?_
  rintro e w2 ⟨⟨i, hi, rfl⟩, hb2'⟩
  go_wp2_with fail
  refine (HC.out _).mono ?_
  rintro e w3 ⟨⟨j, hj, rfl⟩, hb3'⟩
  have hi1 := hi.1
  have hj1 := hj.1
  have hsh := Digits.short b hb2 hb16 a c i j hi hj
  have hah := fun h => Digits.ahead b a i hb2 hb16 hi h
  have li := Digits.ds_length b a i
  have lj := Digits.ds_length b c j
  generalize Digits.ds b a i = X at *
  generalize Digits.ds b c j = Y at *
  have hX : X.isEmpty = false := by cases X with
    | nil => simp at li; omega
    | cons _ _ => rfl
  have hcx : ∀ h : 0 < (bstr X).size, ((bstr X)[0]'h).toNat = (X.getD 0 0).toNat := fun h => by rw [bstr_at]
  generalize (X.getD 0 0).toNat = x0 at *
  have hX0 : (0 : Int) < (X.length : Int) := by omega
  obtain ⟨q1, hq1⟩ : ∃ q : Bool, decide (a < c) = q := ⟨_, rfl⟩
  obtain ⟨q2, hq2⟩ : ∃ q : Bool, decide (i < j) = q := ⟨_, rfl⟩
  obtain ⟨q3, hq3⟩ : ∃ q : Bool, (i == j) = q := ⟨_, rfl⟩
  rw [hq1, hq2, hq3] at hsh
  have hq3' : ((i : Int) == (j : Int)) = q3 := by rw [← hq3, Bool.eq_iff_iff, beq_iff_eq, beq_iff_eq]; omega
  have hq1' : decide ((a : Int) < (c : Int)) = q1 := by rw [← hq1]; congr 1; simp
  have hq2' : decide ((i : Int) < (j : Int)) = q2 := by rw [← hq2]; congr 1; simp
  have HS := Lib.hid hsh; clear hsh
  rw [← li] at hq2 hq2' hq3 hq3'
  rw [← lj] at hq2 hq2' hq3 hq3'
  clear li lj hi hj
  have hbx := hb1.trans (hb2'.mono hb1.size)
  replace hbx := hbx.trans (hb3'.mono hbx.size)
  by_cases h0 : 0 < a
  · have n1 : decide (0 < a) = true := by rw [decide_eq_true_eq]; exact h0
    have n2 : ((x0 : Int) == 48) = false := by rw [beq_eq_false_iff_ne]; have := hah h0; omega
    clear hah h0
    cases q2 <;> cases q3
    all_goals
      go_wp2_with fail
      go_ret
      refine ⟨ret_bool ?_, hbx⟩
      have := HS.out
      simpa using this
  · have n1 : decide (0 < a) = false := by rw [decide_eq_false_iff_not]; exact h0
    clear hah h0
    cases q2 <;> cases q3
    all_goals
      go_wp2_with fail
      go_ret
      refine ⟨ret_bool ?_, hbx⟩
      have := HS.out
      simpa using this
end Go.Proofs.YtnldobfafaajjaaDoor
