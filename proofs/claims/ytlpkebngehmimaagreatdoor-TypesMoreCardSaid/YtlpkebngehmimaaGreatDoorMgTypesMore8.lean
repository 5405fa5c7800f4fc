/- Contract of digits.Parse, whatever the text. -/
import Derived.Test.YtlpkebngehmimaaGreatDoorMgTypesMore7
section
/- Contract of digits.Parse, whatever the text. -/
namespace Go.Proofs.YtlpkebngehmimaaGreatDoor
open Go.RowKit
set_option linter.unusedVariables false
set_option linter.unusedSimpArgs false
theorem bstr_at' (l : List UInt8) (k : Nat) (h : k < (bstr l).size) : (bstr l)[k]'h = l.getD k 0 := by
  have hk : k < l.length := by rwa [bstr_size] at h
  rw [List.getD_eq_getElem?_getD, List.getElem?_eq_getElem hk]
  rfl
namespace Num
def parsed (r : Nat ⊕ Nat) : Array Value := match r with
  | .inl n => #[.int .u64 (n : Nat), .nilIface]
  | .inr e => #[.int .u64 0, .iface 35 (.int .i64 (e : Nat))]
theorem u64_nat (z : Int) : ∃ q : Nat, IntKind.u64.wrap z = (q : Int) ∧ q < 18446744073709551616 := by
  refine ⟨(IntKind.u64.wrap z).toNat, ?_, ?_⟩ <;> rw [IntKind.wrap_u64] <;> omega
theorem all_take {b : Nat} {l : List UInt8} (h : ∀ j, j < l.length → okDig b (l.getD j 0) = true) : l.all (okDig b) = true := by
  rw [List.all_eq_true]
  intro x hx
  obtain ⟨j, hj, rfl⟩ := List.getElem_of_mem hx
  have := h j hj
  rwa [List.getD_eq_getElem?_getD, List.getElem?_eq_getElem hj] at this
theorem not_all {b : Nat} {l : List UInt8} {i : Nat} (hi : i < l.length) (h : okDig b (l.getD i 0) = false) : l.all (okDig b) = false := by
  rw [List.all_eq_false]
  rw [List.getD_eq_getElem?_getD, List.getElem?_eq_getElem hi] at h
  exact ⟨_, List.getElem_mem hi, by simpa using h⟩
end Num
open Num
set_option maxRecDepth 100000 in
set_option maxHeartbeats 1000000 in
theorem ParseN_any (l : List UInt8) (b : Nat) (w : World) (hb : 2 ≤ b) (hb2 : b ≤ 16) (hl : l.length ≤ 100000) :
    Calls Tryz.prog 121 #[.string (bstr l), .int .i64 (b : Nat)] w fun e w' => e = .returned (.tuple (parsed (parseOf b l))) ∧ w = w' := by
  have hd1 : decide ((b : Int) < 2) = false := by rw [decide_eq_false_iff_not]; omega
  have hd2 : decide ((16 : Int) < (b : Int)) = false := by rw [decide_eq_false_iff_not]; omega
  have hbw : IntKind.u64.wrap (b : Int) = (b : Int) := by rw [IntKind.wrap_u64]; omega
  have hb0 : (b : Int) ≠ 0 := by omega
  by_cases hne : l = []
  · subst hne
    go_enter Tryz.func121, Tryz.ntmps121
    go_wp2_with fail
    go_ret2
    exact ⟨rfl, rfl⟩
  have hemp : l.isEmpty = false := by cases l with
    | nil => exact absurd rfl hne
    | cons _ _ => rfl
  obtain ⟨R, hR⟩ : ∃ R, R = parseOf b l := ⟨_, rfl⟩
  have HR : Hid (R = parseOf b l) := Lib.hid hR
  rw [← hR]
  have HNE := Lib.hid hne
  clear hne hR
  go_enter Tryz.func121, Tryz.ntmps121
  go_wp2_with fail
  go_loop [6, 7, 22] (fun v6 v7 v22 => ∃ (i m : Nat) (ov : Bool), i ≤ l.length ∧ v22 = .int .i64 i ∧ v7 = .bool ov ∧ v6 = .int .u64 (m : Nat) ∧ m < 18446744073709551616 ∧ Hid (∀ j, j < i → okDig b (l.getD j 0) = true) ∧ Hid (ov = decide (18446744073709551616 ≤ val b (l.take i))) ∧ Hid (ov = false → m = val b (l.take i))) (fun _ _ v22 => l.length - (intOf v22).toNat)
  case atStart => exact ⟨0, 0, false, by omega, rfl, rfl, rfl, by omega, Lib.hid (by intro j hj; omega), Lib.hid (by simp [val]), Lib.hid (by simp [val])⟩
  case round =>
    obtain ⟨i, m, ov, hi, rfl, rfl, rfl, hm, HG, HO, HM⟩ := hrel
    by_cases hlt : i < l.length
    · have hst := val_take b l i hlt
      have hmo := val_mono b l (by omega) (l.length - (i + 1)) (i + 1) (by omega)
      have hcx : ∀ h : i < (bstr l).size, ((bstr l)[i]'h).toNat = (l.getD i 0).toNat := fun h => by rw [bstr_at']
      have hx8 : (l.getD i 0).toNat < 256 := UInt8.toNat_lt _
      have hok : okDig b (l.getD i 0) = (decide (0 ≤ Keys.dig (l.getD i 0).toNat) && decide (Keys.dig (l.getD i 0).toNat < (b : Int))) := rfl
      have HOK := Lib.hid hok; have HST := Lib.hid hst; have HMO := Lib.hid hmo
      clear hok hst hmo
      have hki : (i : Int) < (l.length : Int) := by omega
      have hkn : decide (i < l.length) = true := decide_eq_true hlt
      have hkd : decide ((i : Int) < (l.length : Int)) = true := decide_eq_true hki
      obtain ⟨x, hx⟩ : ∃ x, x = (l.getD i 0).toNat := ⟨_, rfl⟩
      rw [← hx] at hcx hx8 HOK HST
      have HDX := Lib.hid (fun w => Digit_any x w hx8)
      have HX := Lib.hid hx
      clear hx
      by_cases h1 : 0 ≤ Keys.dig x ∧ Keys.dig x < (b : Int)
      · have hgood : okDig b (l.getD i 0) = true := by rw [HOK.out, decide_eq_true h1.1, decide_eq_true h1.2]; rfl
        have HGD := Lib.hid hgood
        clear hgood
        obtain ⟨d, hdd⟩ := Int.eq_ofNat_of_zero_le h1.1
        have h2 := h1.2
        rw [hdd] at HDX h2 HST
        have hst2 := HST.out
        rw [Int.toNat_natCast] at hst2
        have HST2 := Lib.hid hst2
        clear hdd h1 HST HOK hst2
        have hg2 : ∀ j, j < i + 1 → okDig b (l.getD j 0) = true := by
          intro j hj
          by_cases e : j = i
          · subst e; exact HGD.out
          · exact HG.out j (by omega)
        have HG2 := Lib.hid hg2
        clear hg2
        have d1 : decide ((d : Int) < 0) = false := by rw [decide_eq_false_iff_not]; omega
        have d2 : decide ((b : Int) ≤ (d : Int)) = false := by rw [decide_eq_false_iff_not]; omega
        have hdw : IntKind.u64.wrap (d : Int) = (d : Int) := by rw [IntKind.wrap_u64]; omega
        cases ov with
        | true =>
          have hbig : 18446744073709551616 ≤ val b (l.take i) := by
            have := HO.out
            exact of_decide_eq_true this.symm
          have hbig2 : (true : Bool) = decide (18446744073709551616 ≤ val b (l.take (i + 1))) := by
            rw [HST2.out]
            have : val b (l.take i) ≤ val b (l.take i) * b := Nat.le_mul_of_pos_right _ (by omega)
            exact (decide_eq_true (by omega)).symm
          have HB := Lib.hid hbig2
          clear hbig hbig2
          obtain ⟨q, hq, hq2⟩ := u64_nat ((m : Int) * (b : Int))
          obtain ⟨r, hr, hr2⟩ := u64_nat ((q : Int) + (d : Int))
          go_wp2_with fail
          refine (HDX.out _).mono ?_
          rintro e w1 ⟨rfl, rfl⟩
          go_wp2_with fail
          go_round
          case rel => exact ⟨i + 1, r, true, by omega, by go_num, rfl, rfl, hr2, HG2, HB, Lib.hid (by intro h; cases h)⟩
          case measure => simp [intOf]; omega
        | false =>
          have hmv := HM.out rfl
          have hsub : IntKind.u64.wrap (18446744073709551615 - (d : Int)) = 18446744073709551615 - (d : Int) := by rw [IntKind.wrap_u64]; omega
          obtain ⟨q, hq, hq2⟩ := u64_nat ((m : Int) * (b : Int))
          obtain ⟨r, hr, hr2⟩ := u64_nat ((q : Int) + (d : Int))
          have hquo : ((18446744073709551615 - (d : Int)) / (b : Int) < (m : Int)) ↔ 18446744073709551616 ≤ m * b + d := by
            have e : ((m * b : Nat) : Int) = (m : Int) * (b : Int) := by simp
            have e2 : (m : Int) ≤ (18446744073709551615 - (d : Int)) / (b : Int) ↔ (m : Int) * (b : Int) ≤ 18446744073709551615 - (d : Int) := Int.le_ediv_iff_mul_le (by omega)
            constructor
            · intro h
              have := mt e2.2 (by omega)
              omega
            · intro h
              have := mt e2.1 (by omega)
              omega
          have hval : val b (l.take (i + 1)) = m * b + d := by rw [HST2.out, hmv]
          have HV := Lib.hid hval
          have hrm : ¬ 18446744073709551616 ≤ m * b + d → r = m * b + d := by
            intro h
            have e : ((m * b : Nat) : Int) = (m : Int) * (b : Int) := by simp
            have : IntKind.u64.wrap ((m : Int) * (b : Int)) = (m : Int) * (b : Int) := by rw [IntKind.wrap_u64, ← e]; omega
            rw [hq] at this
            rw [IntKind.wrap_u64] at hr
            omega
          have HRM := Lib.hid hrm
          clear hmv hval hrm
          obtain ⟨ov2, hov2⟩ : ∃ ov2, ov2 = decide ((18446744073709551615 - (d : Int)) / (b : Int) < (m : Int)) := ⟨_, rfl⟩
          have hov3 : ov2 = decide (18446744073709551616 ≤ m * b + d) := by rw [hov2, decide_eq_decide]; exact hquo
          have HV3 := Lib.hid hov3
          have hov4 := hov2.symm
          clear hquo hov3 hov2
          go_wp2_with fail
          refine (HDX.out _).mono ?_
          rintro e w1 ⟨rfl, rfl⟩
          go_wp2_with fail
          go_round
          case rel =>
            refine ⟨i + 1, r, ov2, by omega, by go_num, ?_, rfl, hr2, HG2, Lib.hid (by rw [HV.out]; exact HV3.out), Lib.hid (fun h => ?_)⟩
            · first | rfl | (congr 1)
            · rw [HV.out]
              exact HRM.out (of_decide_eq_false (by rw [← HV3.out]; exact h))
          case measure => simp [intOf]; omega
      · have hbad : okDig b (l.getD i 0) = false := by
          rw [HOK.out, Bool.and_eq_false_iff, decide_eq_false_iff_not, decide_eq_false_iff_not]; omega
        have hall := not_all hlt hbad
        have hRR : R = .inr 3 := by
          rw [HR.out]; unfold parseOf
          rw [if_neg HNE.out, if_neg (by rw [hall]; decide)]
        have HRR := Lib.hid hRR
        clear hall hbad hRR
        obtain ⟨dd, hdd⟩ : ∃ dd, dd = Keys.dig x := ⟨_, rfl⟩
        rw [← hdd] at HDX h1
        clear hdd
        by_cases h2 : dd < 0
        · have d1 : decide (dd < 0) = true := decide_eq_true h2
          go_wp2_with fail
          refine (HDX.out _).mono ?_
          rintro e w1 ⟨rfl, rfl⟩
          go_wp2_with fail
          go_ret2
          rw [HRR.out]
          exact ⟨rfl, rfl⟩
        · have d1 : decide (dd < 0) = false := decide_eq_false h2
          have d2 : decide ((b : Int) ≤ dd) = true := by rw [decide_eq_true_eq]; omega
          clear h1 h2
          go_wp2_with fail
          refine (HDX.out _).mono ?_
          rintro e w1 ⟨rfl, rfl⟩
          go_wp2_with fail
          go_ret2
          rw [HRR.out]
          exact ⟨rfl, rfl⟩
    · obtain rfl : i = l.length := by omega
      have hd : decide ((l.length : Int) < (l.length : Int)) = false := by simp
      have hall := all_take HG.out
      have hO := HO.out
      have hM := HM.out
      rw [List.take_length] at hO hM
      have hRR : R = if val b l < 18446744073709551616 then .inl (val b l) else .inr 2 := by
        rw [HR.out]; unfold parseOf
        rw [if_neg HNE.out, if_pos hall]
      cases ov with
      | true =>
        have h9 := of_decide_eq_true hO.symm
        rw [if_neg (by omega)] at hRR
        have HRR := Lib.hid hRR
        clear hO hM hRR hall h9
        go_wp2_with fail
        go_ret2
        rw [HRR.out]
        exact ⟨rfl, rfl⟩
      | false =>
        have h9 := of_decide_eq_false hO.symm
        rw [if_pos (by omega), ← hM rfl] at hRR
        have HRR := Lib.hid hRR
        clear hO hM hRR hall h9
        go_wp2_with fail
        go_ret2
        rw [HRR.out]
        exact ⟨rfl, rfl⟩
end Go.Proofs.YtlpkebngehmimaaGreatDoor
end
