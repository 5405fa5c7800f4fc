/- Contracts of package digits: Parse, Number; the laws' own fact: figured. -/
import Derived.Test.YtnldobfafaajjaaDoorDigitsC
namespace Go.Proofs.YtnldobfafaajjaaDoor
open Go.RowKit
set_option linter.unusedVariables false
set_option linter.unusedSimpArgs false
namespace Digits
/-- what digits are worth -/
def value (b : Nat) (l : List UInt8) : Nat := l.foldl (fun acc c => acc * b + (Keys.dig c.toNat).toNat) 0
theorem value_snoc (b : Nat) (l : List UInt8) (c : UInt8) : value b (l ++ [c]) = value b l * b + (Keys.dig c.toNat).toNat := by simp [value]
theorem value_take (b : Nat) (l : List UInt8) (i : Nat) (h : i < l.length) : value b (l.take (i + 1)) = value b (l.take i) * b + (Keys.dig (l.getD i 0).toNat).toNat := by
  rw [List.take_succ_eq_append_getElem h, value_snoc, List.getD_eq_getElem?_getD, List.getElem?_eq_getElem h]
  rfl
theorem value_mono (b : Nat) (l : List UInt8) (hb : 1 ≤ b) : ∀ k i, i + k = l.length → value b (l.take i) ≤ value b l
  | 0, i, h => by rw [List.take_of_length_le (by omega)]; exact Nat.le_refl _
  | k + 1, i, h => by
    have h1 := value_mono b l hb k (i + 1) (by omega)
    rw [value_take b l i (by omega)] at h1
    have : value b (l.take i) ≤ value b (l.take i) * b := Nat.le_mul_of_pos_right _ hb
    omega
end Digits
set_option maxRecDepth 100000 in
set_option maxHeartbeats 1000000 in
theorem Parse_ok (l : List UInt8) (b : Nat) (w : World) (hb : 2 ≤ b) (hb2 : b ≤ 16) (hne : l ≠ []) (hl : l.length ≤ 100000) (hd : ∀ i, i < l.length → 0 ≤ Keys.dig (l.getD i 0).toNat ∧ Keys.dig (l.getD i 0).toNat < (b : Int)) (hv : Digits.value b l < 18446744073709551616) :
    Calls Tryd.prog 27 #[.string (bstr l), .int .i64 (b : Nat)] w fun e w' => e = .returned (.tuple #[.int .u64 (Digits.value b l : Nat), .nilIface]) ∧ w = w' := by
  have hemp : l.isEmpty = false := by cases l with
    | nil => exact absurd rfl hne
    | cons _ _ => rfl
  have hd1 : decide ((b : Int) < 2) = false := by rw [decide_eq_false_iff_not]; omega
  have hd2 : decide ((16 : Int) < (b : Int)) = false := by rw [decide_eq_false_iff_not]; omega
  have hbw : IntKind.u64.wrap (b : Int) = (b : Int) := by rw [IntKind.wrap_u64]; omega
  have hb0 : (b : Int) ≠ 0 := by omega
  have HD := Lib.hid hd; clear hd
  have HV := Lib.hid hv; clear hv
  clear hne
  go_enter Tryd.func27, Tryd.ntmps27
  go_wp2_with fail
  go_loop [6, 7, 22] (fun v6 v7 v22 => ∃ i : Nat, i ≤ l.length ∧ v22 = .int .i64 i ∧ v7 = .bool false ∧ v6 = .int .u64 (Digits.value b (l.take i) : Nat)) (fun _ _ v22 => l.length - (intOf v22).toNat)
  case atStart => exact ⟨0, by omega, rfl, rfl, rfl⟩
  case round =>
    obtain ⟨i, hi, rfl, rfl, rfl⟩ := hrel
    by_cases hlt : i < l.length
    · have hst := Digits.value_take b l i hlt
      have hmo := Digits.value_mono b l (by omega) (l.length - (i + 1)) (i + 1) (by omega)
      obtain ⟨h1, h2⟩ := HD.out i hlt
      have hcx : ∀ h : i < (bstr l).size, ((bstr l)[i]'h).toNat = (l.getD i 0).toNat := fun h => by rw [bstr_at]
      have hx8 : (l.getD i 0).toNat < 256 := UInt8.toNat_lt _
      generalize (l.getD i 0).toNat = x at *
      have HDX := Lib.hid (fun w => Digit_any x w hx8)
      obtain ⟨d, hdd⟩ := Int.eq_ofNat_of_zero_le h1
      rw [hdd] at HDX h2 hst
      rw [Int.toNat_natCast] at hst
      clear hdd h1
      have hV := HV.out
      have HST := Lib.hid hst
      rw [hst] at hmo
      clear hst
      generalize Digits.value b (l.take i) = n at *
      have hdw : IntKind.u64.wrap (d : Int) = (d : Int) := by rw [IntKind.wrap_u64]; omega
      have hsub : IntKind.u64.wrap (18446744073709551615 - (d : Int)) = 18446744073709551615 - (d : Int) := by rw [IntKind.wrap_u64]; omega
      have hnb : n * b + d < 18446744073709551616 := by omega
      have hquo : ¬ (18446744073709551615 - (d : Int)) / (b : Int) < (n : Int) := by
        have : (n : Int) ≤ (18446744073709551615 - (d : Int)) / (b : Int) := by
          rw [Int.le_ediv_iff_mul_le (by omega)]
          have : ((n * b : Nat) : Int) = (n : Int) * (b : Int) := by simp
          omega
        omega
      have hover : decide ((18446744073709551615 - (d : Int)) / (b : Int) < (n : Int)) = false := by rw [decide_eq_false_iff_not]; exact hquo
      have d1 : decide ((d : Int) < 0) = false := by rw [decide_eq_false_iff_not]; omega
      have d2 : decide ((b : Int) ≤ (d : Int)) = false := by rw [decide_eq_false_iff_not]; omega
      have hki : (i : Int) < (l.length : Int) := by omega
      go_wp2_with fail
      refine (HDX.out _).mono ?_
      rintro e w1 ⟨rfl, rfl⟩
      go_wp2_with fail
      go_round
      case rel => exact ⟨i + 1, by omega, by go_num, rfl, val_int (by rw [HST.out]; simp)⟩
      case measure => simp [intOf]; omega
    · obtain rfl : i = l.length := by omega
      rw [List.take_length]
      have hd : decide ((l.length : Int) < (l.length : Int)) = false := by simp
      go_wp2_with fail
      go_ret2
      exact ⟨rfl, rfl⟩
set_option maxRecDepth 100000 in
theorem Parse_bad (c : UInt8) (l : List UInt8) (b : Nat) (w : World) (hb : 2 ≤ b) (hb2 : b ≤ 16) (hl : l.length ≤ 100000) (hd : Keys.dig c.toNat < 0 ∨ (b : Int) ≤ Keys.dig c.toNat) :
    Calls Tryd.prog 27 #[.string (bstr (c :: l)), .int .i64 (b : Nat)] w fun e w' => e = .returned (.tuple #[.int .u64 0, .iface 43 (.int .i64 3)]) ∧ w = w' := by
  have hd1 : decide ((b : Int) < 2) = false := by rw [decide_eq_false_iff_not]; omega
  have hd2 : decide ((16 : Int) < (b : Int)) = false := by rw [decide_eq_false_iff_not]; omega
  have hemp : (c :: l).isEmpty = false := rfl
  have hcx : ∀ h : 0 < (bstr (c :: l)).size, ((bstr (c :: l))[0]'h).toNat = c.toNat := fun h => by rw [bstr_at]; rfl
  have hx8 : c.toNat < 256 := UInt8.toNat_lt _
  have hlen : 0 < (c :: l).length := by simp
  generalize (c :: l) = L at *
  generalize c.toNat = x at *
  have HDX := Lib.hid (fun w => Digit_any x w hx8)
  obtain ⟨d, hdd⟩ : ∃ d, d = Keys.dig x := ⟨_, rfl⟩
  rw [← hdd] at HDX hd
  clear hdd
  have hki : (0 : Int) < (L.length : Int) := by omega
  obtain ⟨q1, hq1⟩ : ∃ q : Bool, decide (d < 0) = q := ⟨_, rfl⟩
  have hq : q1 = true ∨ q1 = false ∧ decide ((b : Int) ≤ d) = true := by
    rcases hd with h | h
    · left; rw [← hq1, decide_eq_true_eq]; exact h
    · right
      refine ⟨?_, by rw [decide_eq_true_eq]; exact h⟩
      rw [← hq1, decide_eq_false_iff_not]; omega
  clear hd
  rcases hq with rfl | ⟨rfl, hq2⟩
  all_goals
    go_enter Tryd.func27, Tryd.ntmps27
    go_wp2_with fail
    refine wp_loop_rounds 1 ?_
    rw [rounds_succ]
    go_wp2_with fail
    refine (HDX.out _).mono ?_
    rintro e w1 ⟨rfl, rfl⟩
    go_wp2_with fail
    go_ret2
    exact ⟨rfl, rfl⟩
set_option maxRecDepth 100000 in
theorem Number_16 (w : World) : Calls Tryd.prog 44 #[.string (bstr [45, 48, 120, 49, 48])] w fun e w' => e = .returned (.tuple #[.int .i64 (-16), .nilIface]) ∧ Below w.heap.size w w' := by
  have hP := fun w => Parse_ok [49, 48] 16 w (by decide) (by decide) (by decide) (by decide) (by decide) (by decide)
  have hv : Digits.value 16 [49, 48] = 16 := by decide
  rw [hv] at hP
  have HP := Lib.hid hP; clear hP hv
  have s0 : ∀ h : 0 < (bstr [45, 48, 120, 49, 48]).size, ((bstr [45, 48, 120, 49, 48])[0]'h).toNat = 45 := fun h => by rw [bstr_at]; rfl
  have s1 : (bstr [45, 48, 120, 49, 48]).extract 1 5 = bstr [48, 120, 49, 48] := by decide +kernel
  have s2 : ∀ h : 0 < (bstr [48, 120, 49, 48]).size, ((bstr [48, 120, 49, 48])[0]'h).toNat = 48 := fun h => by rw [bstr_at]; rfl
  have s3 : ∀ h : 1 < (bstr [48, 120, 49, 48]).size, ((bstr [48, 120, 49, 48])[1]'h).toNat = 120 := fun h => by rw [bstr_at]; rfl
  have s4 : (bstr [48, 120, 49, 48]).extract 2 4 = bstr [49, 48] := by decide +kernel
  have l0 : (bstr [45, 48, 120, 49, 48]).size = 5 := rfl
  have l1 : (bstr [48, 120, 49, 48]).size = 4 := rfl
  have m0 : (bstr [45, 48, 120, 49, 48]).toList.isEmpty = false := by rw [bstr_toList]; rfl
  generalize bstr [45, 48, 120, 49, 48] = S0 at *
  generalize bstr [48, 120, 49, 48] = S1 at *
  generalize bstr [49, 48] = S2 at *
  go_enter Tryd.func44, Tryd.ntmps44
  go_wp2_with fail
  go_region
  all_goals
    go_wp2_with fail
    refine (HP.out _).mono ?_
    rintro e w1 ⟨rfl, rfl⟩
    go_wp2_with fail
    go_ret2
    exact ⟨ret_tup1 (val_int (by rw [IntKind.wrap_u64]; unfold wrap64; omega)), (Below.refl _ _).drew⟩
set_option maxRecDepth 100000 in
set_option maxHeartbeats 1000000 in
theorem figured_any (w : World) (hg : ErrType w) : Calls Tryd.prog 23 #[] w fun e w' => e = .returned (.bool true) ∧ Below w.heap.size w w' := by
  have hp := fun w => Print_any 255 16 4 w (by decide) (by decide) (by decide) (by decide)
  have hwide : ∀ J, Digits.Wide 16 255 (max 4 1) J → J = 4 := fun J h => h.unique ⟨by decide, by decide, fun k hk _ => hk⟩
  have hds : Digits.ds 16 255 4 = [48, 48, 102, 102] := by decide +kernel
  have hz := fun w => Parse_bad 122 [122] 10 w (by decide) (by decide) (by decide) (by decide)
  have hu := fun w => Unhex_any [52, 97, 32, 52, 66] [] [74, 75] w (.byte (h := 4) (k := 10) (by decide) (by decide) (by decide) (.blank (.byte (h := 4) (k := 11) (by decide) (by decide) (by decide) .nil))) (.inl rfl) (by decide)
  have hx := fun w => Hex_any [74] w (by decide)
  have hxe : Digits.hex [74] = [52, 97] := by decide +kernel
  rw [hxe] at hx
  have HP := Lib.hid hp; clear hp
  have HZ := Lib.hid hz; clear hz
  have HU := Lib.hid hu; clear hu
  have HX := Lib.hid hx; clear hx hxe
  have HW := Lib.hid hwide; clear hwide
  have HG := Lib.hid hg; clear hg
  have HN := Lib.hid Number_16
  go_enter Tryd.func23, Tryd.ntmps23
  go_wp2_with fail
  refine (HP.out _).mono ?_
  rintro e w1 ⟨⟨J, hJ, rfl⟩, hb1⟩
  obtain rfl := HW.out J hJ
  rw [hds]
  go_wp2_with fail
  refine (HZ.out _).mono ?_
  rintro e w2 ⟨rfl, rfl⟩
  go_wp2_with fail
  refine (HN.out _).mono ?_
  rintro e w2 ⟨rfl, hb2⟩
  have hb12 := hb1.trans (hb2.mono hb1.size)
  go_wp2_with fail
  refine (HU.out _).mono ?_
  rintro e w3 ⟨hout, hb3⟩
  rcases hout with ⟨_, rfl⟩ | ⟨h, _⟩
  · have hb13 := hb12.trans (hb3.mono hb12.size)
    go_wp2_with fail
    refine (Tell_errno _ _ (HG.out.below hb13 HG.out.lt)).mono ?_
    rintro e w4 ⟨rfl, hb4⟩
    have hb14 := hb13.trans (hb4.mono hb13.size)
    go_wp2_with fail
    refine (HX.out _).mono ?_
    rintro e w5 ⟨rfl, hb5⟩
    go_wp2_with fail
    go_ret
    exact ⟨rfl, hb14.trans (hb5.mono hb14.size)⟩
  · exact absurd rfl h
end Go.Proofs.YtnldobfafaajjaaDoor
