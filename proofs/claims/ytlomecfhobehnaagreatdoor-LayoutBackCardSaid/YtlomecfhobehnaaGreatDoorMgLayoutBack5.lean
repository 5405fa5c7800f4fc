/- Contract of digits.Number at a text that begins with no minus. -/
import Derived.Test.YtlomecfhobehnaaGreatDoorMgLayoutBack4
section
/- Contract of digits.Parse, whatever the text. -/
namespace Go.Proofs.YtlomecfhobehnaaGreatDoor
open Go.RowKit
set_option linter.unusedVariables false
set_option linter.unusedSimpArgs false
theorem bstr_at' (l : List UInt8) (k : Nat) (h : k < (bstr l).size) : (bstr l)[k]'h = l.getD k 0 := by
  have hk : k < l.length := by rwa [bstr_size] at h
  rw [List.getD_eq_getElem?_getD, List.getElem?_eq_getElem hk]
  rfl
namespace Num
def parsed (r : Nat ⊕ Nat) : Array Value := match r with
  | .inl n => #[.int .u64 (n : Nat), .nilIface]
  | .inr e => #[.int .u64 0, .iface 48 (.int .i64 (e : Nat))]
theorem u64_nat (z : Int) : ∃ q : Nat, IntKind.u64.wrap z = (q : Int) ∧ q < 18446744073709551616 := by
  refine ⟨(IntKind.u64.wrap z).toNat, ?_, ?_⟩ <;> rw [IntKind.wrap_u64] <;> omega
theorem all_take {b : Nat} {l : List UInt8} (h : ∀ j, j < l.length → okDig b (l.getD j 0) = true) : l.all (okDig b) = true := by
  rw [List.all_eq_true]
  intro x hx
  obtain ⟨j, hj, rfl⟩ := List.getElem_of_mem hx
  have := h j hj
  rwa [List.getD_eq_getElem?_getD, List.getElem?_eq_getElem hj] at this
theorem not_all {b : Nat} {l : List UInt8} {i : Nat} (hi : i < l.length) (h : okDig b (l.getD i 0) = false) : l.all (okDig b) = false := by
  rw [List.all_eq_false]
  rw [List.getD_eq_getElem?_getD, List.getElem?_eq_getElem hi] at h
  exact ⟨_, List.getElem_mem hi, by simpa using h⟩
end Num
open Num
set_option maxRecDepth 100000 in
set_option maxHeartbeats 1000000 in
theorem ParseN_any (l : List UInt8) (b : Nat) (w : World) (hb : 2 ≤ b) (hb2 : b ≤ 16) (hl : l.length ≤ 100000) :
    Calls Tryz.prog 157 #[.string (bstr l), .int .i64 (b : Nat)] w fun e w' => e = .returned (.tuple (parsed (parseOf b l))) ∧ w = w' := by
  have hd1 : decide ((b : Int) < 2) = false := by rw [decide_eq_false_iff_not]; omega
  have hd2 : decide ((16 : Int) < (b : Int)) = false := by rw [decide_eq_false_iff_not]; omega
  have hbw : IntKind.u64.wrap (b : Int) = (b : Int) := by rw [IntKind.wrap_u64]; omega
  have hb0 : (b : Int) ≠ 0 := by omega
  by_cases hne : l = []
  · subst hne
    go_enter Tryz.func157, Tryz.ntmps157
    go_wp2_with fail
    go_ret2
    exact ⟨rfl, rfl⟩
  have hemp : l.isEmpty = false := by cases l with
    | nil => exact absurd rfl hne
    | cons _ _ => rfl
  obtain ⟨R, hR⟩ : ∃ R, R = parseOf b l := ⟨_, rfl⟩
  have HR : Hid (R = parseOf b l) := Lib.hid hR
  rw [← hR]
  have HNE := Lib.hid hne
  clear hne hR
  go_enter Tryz.func157, Tryz.ntmps157
  go_wp2_with fail
  go_loop [6, 7, 22] (fun v6 v7 v22 => ∃ (i m : Nat) (ov : Bool), i ≤ l.length ∧ v22 = .int .i64 i ∧ v7 = .bool ov ∧ v6 = .int .u64 (m : Nat) ∧ m < 18446744073709551616 ∧ Hid (∀ j, j < i → okDig b (l.getD j 0) = true) ∧ Hid (ov = decide (18446744073709551616 ≤ val b (l.take i))) ∧ Hid (ov = false → m = val b (l.take i))) (fun _ _ v22 => l.length - (intOf v22).toNat)
  case atStart => exact ⟨0, 0, false, by omega, rfl, rfl, rfl, by omega, Lib.hid (by intro j hj; omega), Lib.hid (by simp [val]), Lib.hid (by simp [val])⟩
  case round =>
    obtain ⟨i, m, ov, hi, rfl, rfl, rfl, hm, HG, HO, HM⟩ := hrel
    by_cases hlt : i < l.length
    · have hst := val_take b l i hlt
      have hmo := val_mono b l (by omega) (l.length - (i + 1)) (i + 1) (by omega)
      have hcx : ∀ h : i < (bstr l).size, ((bstr l)[i]'h).toNat = (l.getD i 0).toNat := fun h => by rw [bstr_at']
      have hx8 : (l.getD i 0).toNat < 256 := UInt8.toNat_lt _
      have hok : okDig b (l.getD i 0) = (decide (0 ≤ Keys.dig (l.getD i 0).toNat) && decide (Keys.dig (l.getD i 0).toNat < (b : Int))) := rfl
      have HOK := Lib.hid hok; have HST := Lib.hid hst; have HMO := Lib.hid hmo
      clear hok hst hmo
      have hki : (i : Int) < (l.length : Int) := by omega
      have hkn : decide (i < l.length) = true := decide_eq_true hlt
      have hkd : decide ((i : Int) < (l.length : Int)) = true := decide_eq_true hki
      obtain ⟨x, hx⟩ : ∃ x, x = (l.getD i 0).toNat := ⟨_, rfl⟩
      rw [← hx] at hcx hx8 HOK HST
      have HDX := Lib.hid (fun w => Digit_any x w hx8)
      have HX := Lib.hid hx
      clear hx
      by_cases h1 : 0 ≤ Keys.dig x ∧ Keys.dig x < (b : Int)
      · have hgood : okDig b (l.getD i 0) = true := by rw [HOK.out, decide_eq_true h1.1, decide_eq_true h1.2]; rfl
        have HGD := Lib.hid hgood
        clear hgood
        obtain ⟨d, hdd⟩ := Int.eq_ofNat_of_zero_le h1.1
        have h2 := h1.2
        rw [hdd] at HDX h2 HST
        have hst2 := HST.out
        rw [Int.toNat_natCast] at hst2
        have HST2 := Lib.hid hst2
        clear hdd h1 HST HOK hst2
        have hg2 : ∀ j, j < i + 1 → okDig b (l.getD j 0) = true := by
          intro j hj
          by_cases e : j = i
          · subst e; exact HGD.out
          · exact HG.out j (by omega)
        have HG2 := Lib.hid hg2
        clear hg2
        have d1 : decide ((d : Int) < 0) = false := by rw [decide_eq_false_iff_not]; omega
        have d2 : decide ((b : Int) ≤ (d : Int)) = false := by rw [decide_eq_false_iff_not]; omega
        have hdw : IntKind.u64.wrap (d : Int) = (d : Int) := by rw [IntKind.wrap_u64]; omega
        cases ov with
        | true =>
          have hbig : 18446744073709551616 ≤ val b (l.take i) := by
            have := HO.out
            exact of_decide_eq_true this.symm
          have hbig2 : (true : Bool) = decide (18446744073709551616 ≤ val b (l.take (i + 1))) := by
            rw [HST2.out]
            have : val b (l.take i) ≤ val b (l.take i) * b := Nat.le_mul_of_pos_right _ (by omega)
            exact (decide_eq_true (by omega)).symm
          have HB := Lib.hid hbig2
          clear hbig hbig2
          obtain ⟨q, hq, hq2⟩ := u64_nat ((m : Int) * (b : Int))
          obtain ⟨r, hr, hr2⟩ := u64_nat ((q : Int) + (d : Int))
          go_wp2_with fail
          refine (HDX.out _).mono ?_
          rintro e w1 ⟨rfl, rfl⟩
          go_wp2_with fail
          go_round
          case rel => exact ⟨i + 1, r, true, by omega, by go_num, rfl, rfl, hr2, HG2, HB, Lib.hid (by intro h; cases h)⟩
          case measure => simp [intOf]; omega
        | false =>
          have hmv := HM.out rfl
          have hsub : IntKind.u64.wrap (18446744073709551615 - (d : Int)) = 18446744073709551615 - (d : Int) := by rw [IntKind.wrap_u64]; omega
          obtain ⟨q, hq, hq2⟩ := u64_nat ((m : Int) * (b : Int))
          obtain ⟨r, hr, hr2⟩ := u64_nat ((q : Int) + (d : Int))
          have hquo : ((18446744073709551615 - (d : Int)) / (b : Int) < (m : Int)) ↔ 18446744073709551616 ≤ m * b + d := by
            have e : ((m * b : Nat) : Int) = (m : Int) * (b : Int) := by simp
            have e2 : (m : Int) ≤ (18446744073709551615 - (d : Int)) / (b : Int) ↔ (m : Int) * (b : Int) ≤ 18446744073709551615 - (d : Int) := Int.le_ediv_iff_mul_le (by omega)
            constructor
            · intro h
              have := mt e2.2 (by omega)
              omega
            · intro h
              have := mt e2.1 (by omega)
              omega
          have hval : val b (l.take (i + 1)) = m * b + d := by rw [HST2.out, hmv]
          have HV := Lib.hid hval
          have hrm : ¬ 18446744073709551616 ≤ m * b + d → r = m * b + d := by
            intro h
            have e : ((m * b : Nat) : Int) = (m : Int) * (b : Int) := by simp
            have : IntKind.u64.wrap ((m : Int) * (b : Int)) = (m : Int) * (b : Int) := by rw [IntKind.wrap_u64, ← e]; omega
            rw [hq] at this
            rw [IntKind.wrap_u64] at hr
            omega
          have HRM := Lib.hid hrm
          clear hmv hval hrm
          obtain ⟨ov2, hov2⟩ : ∃ ov2, ov2 = decide ((18446744073709551615 - (d : Int)) / (b : Int) < (m : Int)) := ⟨_, rfl⟩
          have hov3 : ov2 = decide (18446744073709551616 ≤ m * b + d) := by rw [hov2, decide_eq_decide]; exact hquo
          have HV3 := Lib.hid hov3
          have hov4 := hov2.symm
          clear hquo hov3 hov2
          go_wp2_with fail
          refine (HDX.out _).mono ?_
          rintro e w1 ⟨rfl, rfl⟩
          go_wp2_with fail
          go_round
          case rel =>
            refine ⟨i + 1, r, ov2, by omega, by go_num, ?_, rfl, hr2, HG2, Lib.hid (by rw [HV.out]; exact HV3.out), Lib.hid (fun h => ?_)⟩
            · first | rfl | (congr 1)
            · rw [HV.out]
              exact HRM.out (of_decide_eq_false (by rw [← HV3.out]; exact h))
          case measure => simp [intOf]; omega
      · have hbad : okDig b (l.getD i 0) = false := by
          rw [HOK.out, Bool.and_eq_false_iff, decide_eq_false_iff_not, decide_eq_false_iff_not]; omega
        have hall := not_all hlt hbad
        have hRR : R = .inr 3 := by
          rw [HR.out]; unfold parseOf
          rw [if_neg HNE.out, if_neg (by rw [hall]; decide)]
        have HRR := Lib.hid hRR
        clear hall hbad hRR
        obtain ⟨dd, hdd⟩ : ∃ dd, dd = Keys.dig x := ⟨_, rfl⟩
        rw [← hdd] at HDX h1
        clear hdd
        by_cases h2 : dd < 0
        · have d1 : decide (dd < 0) = true := decide_eq_true h2
          go_wp2_with fail
          refine (HDX.out _).mono ?_
          rintro e w1 ⟨rfl, rfl⟩
          go_wp2_with fail
          go_ret2
          rw [HRR.out]
          exact ⟨rfl, rfl⟩
        · have d1 : decide (dd < 0) = false := decide_eq_false h2
          have d2 : decide ((b : Int) ≤ dd) = true := by rw [decide_eq_true_eq]; omega
          clear h1 h2
          go_wp2_with fail
          refine (HDX.out _).mono ?_
          rintro e w1 ⟨rfl, rfl⟩
          go_wp2_with fail
          go_ret2
          rw [HRR.out]
          exact ⟨rfl, rfl⟩
    · obtain rfl : i = l.length := by omega
      have hd : decide ((l.length : Int) < (l.length : Int)) = false := by simp
      have hall := all_take HG.out
      have hO := HO.out
      have hM := HM.out
      rw [List.take_length] at hO hM
      have hRR : R = if val b l < 18446744073709551616 then .inl (val b l) else .inr 2 := by
        rw [HR.out]; unfold parseOf
        rw [if_neg HNE.out, if_pos hall]
      cases ov with
      | true =>
        have h9 := of_decide_eq_true hO.symm
        rw [if_neg (by omega)] at hRR
        have HRR := Lib.hid hRR
        clear hO hM hRR hall h9
        go_wp2_with fail
        go_ret2
        rw [HRR.out]
        exact ⟨rfl, rfl⟩
      | false =>
        have h9 := of_decide_eq_false hO.symm
        rw [if_pos (by omega), ← hM rfl] at hRR
        have HRR := Lib.hid hRR
        clear hO hM hRR hall h9
        go_wp2_with fail
        go_ret2
        rw [HRR.out]
        exact ⟨rfl, rfl⟩
end Go.Proofs.YtlomecfhobehnaaGreatDoor
end
section
/- Contract of digits.Number at a text that begins with no minus. -/
namespace Go.Proofs.YtlomecfhobehnaaGreatDoor
open Go.RowKit
set_option linter.unusedVariables false
set_option linter.unusedSimpArgs false
open Num
namespace Num
def numbered (r : Nat ⊕ Nat) : Array Value := match r with
  | .inl n => #[.int .i64 (n : Nat), .nilIface]
  | .inr e => #[.int .i64 0, .iface 48 (.int .i64 (e : Nat))]
theorem numOf_eq (s : List UInt8) : numOf s = match parseOf (baseOf s) (restOf s) with
  | .inr e => .inr e
  | .inl n => if n < 9223372036854775808 then .inl n else .inr 2 := rfl
theorem cut2 (s : List UInt8) : (bstr s).extract 2 s.length = bstr (s.drop 2) := by
  apply ByteArray.ext
  apply Array.ext'
  rw [ByteArray.data_extract, Array.toList_extract]
  show List.extract s 2 s.length = s.drop 2
  rw [List.extract_eq_take_drop]
  exact List.take_of_length_le (by rw [List.length_drop]; exact Nat.le_refl _)
theorem base_other (s : List UInt8) (h : s.length ≤ 1 ∨ (s.getD 0 0).toNat ≠ 48 ∨ ((s.getD 1 0).toNat ≠ 120 ∧ (s.getD 1 0).toNat ≠ 98)) : baseOf s = 10 ∧ restOf s = s := by
  unfold baseOf restOf
  split
  · rcases h with h | h | h
    · simp at h
    · exact absurd rfl h
    · exact absurd rfl h.1
  · rcases h with h | h | h
    · simp at h
    · exact absurd rfl h
    · exact absurd rfl h.2
  · exact ⟨rfl, rfl⟩
theorem base_x (s : List UInt8) (h : 1 < s.length) (h0 : (s.getD 0 0).toNat = 48) (h1 : (s.getD 1 0).toNat = 120) : baseOf s = 16 ∧ restOf s = s.drop 2 := by
  obtain ⟨a, b, r, rfl⟩ : ∃ a b r, s = a :: b :: r := by
    match s, h with
    | a :: b :: r, _ => exact ⟨a, b, r, rfl⟩
  have e0 : a = 48 := UInt8.toNat_inj.1 h0
  have e1 : b = 120 := UInt8.toNat_inj.1 h1
  subst e0 e1
  exact ⟨rfl, rfl⟩
theorem base_b (s : List UInt8) (h : 1 < s.length) (h0 : (s.getD 0 0).toNat = 48) (h1 : (s.getD 1 0).toNat = 98) : baseOf s = 2 ∧ restOf s = s.drop 2 := by
  obtain ⟨a, b, r, rfl⟩ : ∃ a b r, s = a :: b :: r := by
    match s, h with
    | a :: b :: r, _ => exact ⟨a, b, r, rfl⟩
  have e0 : a = 48 := UInt8.toNat_inj.1 h0
  have e1 : b = 98 := UInt8.toNat_inj.1 h1
  subst e0 e1
  exact ⟨rfl, rfl⟩
end Num
set_option maxRecDepth 100000 in
set_option maxHeartbeats 1000000 in
theorem Number_any (s : List UInt8) (w : World) (hl : s.length ≤ 100000) (h0 : s ≠ []) (hd : (s.getD 0 0).toNat ≠ 45) :
    Calls Tryz.prog 156 #[.string (bstr s)] w fun e w' => e = .returned (.tuple (numbered (numOf s))) ∧ Below w.heap.size w w' := by
  have hne : (s == []) = false := by rw [beq_eq_false_iff_ne]; exact h0
  have hne2 : s.isEmpty = false := by cases s with | nil => exact absurd rfl h0 | cons a b => rfl
  have hpos : 0 < s.length := List.length_pos_iff.2 h0
  have s0 : ∀ h : 0 < (bstr s).size, ((bstr s)[0]'h).toNat = (s.getD 0 0).toNat := fun h => by rw [bstr_at']
  have s1 : ∀ h : 1 < (bstr s).size, ((bstr s)[1]'h).toNat = (s.getD 1 0).toNat := fun h => by rw [bstr_at']
  have hx := cut2 s
  have d45 : (((s.getD 0 0).toNat : Int) == 45) = false := by rw [beq_eq_false_iff_ne]; omega
  obtain ⟨R, hR⟩ : ∃ R, R = parseOf (baseOf s) (restOf s) := ⟨_, rfl⟩
  have hN := numOf_eq s
  rw [← hR] at hN
  have HN := Lib.hid hN
  have fin : ∀ R : Nat ⊕ Nat, (∃ n, R = .inl n ∧ n < 9223372036854775808) ∨ (∃ n, R = .inl n ∧ 9223372036854775808 ≤ n ∧ n < 18446744073709551616) ∨ (∃ e, R = .inr e) ∨ (∃ n, R = .inl n ∧ 18446744073709551616 ≤ n) := by
    intro R
    cases R with
    | inl n => rcases Nat.lt_or_ge n 9223372036854775808 with h | h; exact .inl ⟨n, rfl, h⟩; rcases Nat.lt_or_ge n 18446744073709551616 with h2 | h2; exact .inr (.inl ⟨n, rfl, h, h2⟩); exact .inr (.inr (.inr ⟨n, rfl, h2⟩))
    | inr e => exact .inr (.inr (.inl ⟨e, rfl⟩))
  have hR64 : ∀ n, R = .inl n → n < 18446744073709551616 := by
    intro n e
    rw [hR] at e
    unfold parseOf at e
    split at e
    · cases e
    · split at e
      · split at e
        · cases e; assumption
        · cases e
      · cases e
  have hcase := fin R
  rcases hcase with ⟨n, hr, hn⟩ | ⟨n, hr, hn, hn2⟩ | ⟨en, hr⟩ | ⟨n, hr, hn⟩
  case inl =>
    have f1 : decide ((9223372036854775808 : Int) ≤ (n : Int)) = false := decide_eq_false (by omega)
    have f2 : IntKind.i64.wrap (n : Int) = (n : Int) := by rw [IntKind.wrap_i64]; omega
    rw [hr] at hR HN
    have HP : Hid (∀ w, Calls Tryz.prog 157 #[.string (bstr (restOf s)), .int .i64 (baseOf s : Nat)] w fun e w' => e = .returned (.tuple (parsed (parseOf (baseOf s) (restOf s)))) ∧ w = w') := Lib.hid fun w => ParseN_any (restOf s) (baseOf s) w (by unfold baseOf; split <;> omega) (by unfold baseOf; split <;> omega) (by
      unfold restOf; split
      · simp only [List.length_cons] at hl; omega
      · simp only [List.length_cons] at hl; omega
      · exact hl)
    rw [← hR] at HP
    clear hR64 fin hR
    simp only [parsed] at HP
    have HNN := HN.out
    simp only at HNN
    have HN2 := Lib.hid HNN
    clear HNN HN h0 hN hr
    by_cases g1 : 1 < s.length
    · have e1 : decide ((1 : Int) < (s.length : Int)) = true := decide_eq_true (by omega)
      have e1n : decide (1 < s.length) = true := decide_eq_true g1
      have e1i : (1 : Int) < (s.length : Int) := by omega
      have e2i : (2 : Int) ≤ (s.length : Int) := by omega
      by_cases g2 : (s.getD 0 0).toNat = 48
      · have e2 : (((s.getD 0 0).toNat : Int) == 48) = true := by rw [beq_iff_eq]; omega
        by_cases g3 : (s.getD 1 0).toNat = 120
        · have e3 : (((s.getD 1 0).toNat : Int) == 120) = true := by rw [beq_iff_eq]; omega
          obtain ⟨b1, b2⟩ := base_x s g1 g2 g3
          rw [b1, b2] at HP
          clear b1 b2 g2 g3
          generalize (s.getD 0 0).toNat = x at *
          generalize (s.getD 1 0).toNat = y at *
          go_enter Tryz.func156, Tryz.ntmps156
          go_wp2_with fail
          go_region
          all_goals
            go_wp2_with fail
            refine (HP.out _).mono ?_
            rintro e w1 ⟨rfl, rfl⟩
            go_wp2_with fail
            go_ret2
            rw [HN2.out]
            first | exact ⟨rfl, (Below.refl _ _).drew⟩ | (refine ⟨?_, (Below.refl _ _).drew⟩; (first | (rw [if_pos hn]; done) | (rw [if_pos hn]; rfl) | (rw [if_neg (by omega)]; rfl)))
        · have e3 : (((s.getD 1 0).toNat : Int) == 120) = false := by rw [beq_eq_false_iff_ne]; omega
          by_cases g4 : (s.getD 1 0).toNat = 98
          · have e4 : (((s.getD 1 0).toNat : Int) == 98) = true := by rw [beq_iff_eq]; omega
            obtain ⟨b1, b2⟩ := base_b s g1 g2 g4
            rw [b1, b2] at HP
            clear b1 b2 g2 g3 g4
            generalize (s.getD 0 0).toNat = x at *
            generalize (s.getD 1 0).toNat = y at *
            go_enter Tryz.func156, Tryz.ntmps156
            go_wp2_with fail
            go_region
            all_goals
              go_wp2_with fail
              refine (HP.out _).mono ?_
              rintro e w1 ⟨rfl, rfl⟩
              go_wp2_with fail
              go_ret2
              rw [HN2.out]
              first | exact ⟨rfl, (Below.refl _ _).drew⟩ | (refine ⟨?_, (Below.refl _ _).drew⟩; (first | (rw [if_pos hn]; done) | (rw [if_pos hn]; rfl) | (rw [if_neg (by omega)]; rfl)))
          · have e4 : (((s.getD 1 0).toNat : Int) == 98) = false := by rw [beq_eq_false_iff_ne]; omega
            obtain ⟨b1, b2⟩ := base_other s (.inr (.inr ⟨g3, g4⟩))
            rw [b1, b2] at HP
            clear b1 b2 g2 g3 g4
            generalize (s.getD 0 0).toNat = x at *
            generalize (s.getD 1 0).toNat = y at *
            go_enter Tryz.func156, Tryz.ntmps156
            go_wp2_with fail
            refine (HP.out _).mono ?_
            rintro e w1 ⟨rfl, rfl⟩
            go_wp2_with fail
            go_ret2
            rw [HN2.out]
            first | exact ⟨rfl, (Below.refl _ _)⟩ | (refine ⟨?_, (Below.refl _ _)⟩; (first | (rw [if_pos hn]; done) | (rw [if_pos hn]; rfl) | (rw [if_neg (by omega)]; rfl)))
      · have e2 : (((s.getD 0 0).toNat : Int) == 48) = false := by rw [beq_eq_false_iff_ne]; omega
        obtain ⟨b1, b2⟩ := base_other s (.inr (.inl g2))
        rw [b1, b2] at HP
        clear b1 b2 g2
        generalize (s.getD 0 0).toNat = x at *
        generalize (s.getD 1 0).toNat = y at *
        go_enter Tryz.func156, Tryz.ntmps156
        go_wp2_with fail
        refine (HP.out _).mono ?_
        rintro e w1 ⟨rfl, rfl⟩
        go_wp2_with fail
        go_ret2
        rw [HN2.out]
        first | exact ⟨rfl, (Below.refl _ _)⟩ | (refine ⟨?_, (Below.refl _ _)⟩; (first | (rw [if_pos hn]; done) | (rw [if_pos hn]; rfl) | (rw [if_neg (by omega)]; rfl)))
    · have e1 : decide ((1 : Int) < (s.length : Int)) = false := decide_eq_false (by omega)
      have e1n : decide (1 < s.length) = false := decide_eq_false g1
      obtain ⟨b1, b2⟩ := base_other s (.inl (by omega))
      rw [b1, b2] at HP
      clear b1 b2
      generalize (s.getD 0 0).toNat = x at *
      generalize (s.getD 1 0).toNat = y at *
      go_enter Tryz.func156, Tryz.ntmps156
      go_wp2_with fail
      refine (HP.out _).mono ?_
      rintro e w1 ⟨rfl, rfl⟩
      go_wp2_with fail
      go_ret2
      rw [HN2.out]
      first | exact ⟨rfl, (Below.refl _ _)⟩ | (refine ⟨?_, (Below.refl _ _)⟩; (first | (rw [if_pos hn]; done) | (rw [if_pos hn]; rfl) | (rw [if_neg (by omega)]; rfl)))
  case inr.inl =>
    have f1 : decide ((9223372036854775808 : Int) ≤ (n : Int)) = true := decide_eq_true (by omega)
    rw [hr] at hR HN
    have HP : Hid (∀ w, Calls Tryz.prog 157 #[.string (bstr (restOf s)), .int .i64 (baseOf s : Nat)] w fun e w' => e = .returned (.tuple (parsed (parseOf (baseOf s) (restOf s)))) ∧ w = w') := Lib.hid fun w => ParseN_any (restOf s) (baseOf s) w (by unfold baseOf; split <;> omega) (by unfold baseOf; split <;> omega) (by
      unfold restOf; split
      · simp only [List.length_cons] at hl; omega
      · simp only [List.length_cons] at hl; omega
      · exact hl)
    rw [← hR] at HP
    clear hR64 fin hR
    simp only [parsed] at HP
    have HNN := HN.out
    simp only at HNN
    have HN2 := Lib.hid HNN
    clear HNN HN h0 hN hr
    by_cases g1 : 1 < s.length
    · have e1 : decide ((1 : Int) < (s.length : Int)) = true := decide_eq_true (by omega)
      have e1n : decide (1 < s.length) = true := decide_eq_true g1
      have e1i : (1 : Int) < (s.length : Int) := by omega
      have e2i : (2 : Int) ≤ (s.length : Int) := by omega
      by_cases g2 : (s.getD 0 0).toNat = 48
      · have e2 : (((s.getD 0 0).toNat : Int) == 48) = true := by rw [beq_iff_eq]; omega
        by_cases g3 : (s.getD 1 0).toNat = 120
        · have e3 : (((s.getD 1 0).toNat : Int) == 120) = true := by rw [beq_iff_eq]; omega
          obtain ⟨b1, b2⟩ := base_x s g1 g2 g3
          rw [b1, b2] at HP
          clear b1 b2 g2 g3
          generalize (s.getD 0 0).toNat = x at *
          generalize (s.getD 1 0).toNat = y at *
          go_enter Tryz.func156, Tryz.ntmps156
          go_wp2_with fail
          go_region
          all_goals
            go_wp2_with fail
            refine (HP.out _).mono ?_
            rintro e w1 ⟨rfl, rfl⟩
            go_wp2_with fail
            go_ret2
            rw [HN2.out]
            first | exact ⟨rfl, (Below.refl _ _).drew⟩ | (refine ⟨?_, (Below.refl _ _).drew⟩; (first | (rw [if_pos hn]; done) | (rw [if_pos hn]; rfl) | (rw [if_neg (by omega)]; rfl)))
        · have e3 : (((s.getD 1 0).toNat : Int) == 120) = false := by rw [beq_eq_false_iff_ne]; omega
          by_cases g4 : (s.getD 1 0).toNat = 98
          · have e4 : (((s.getD 1 0).toNat : Int) == 98) = true := by rw [beq_iff_eq]; omega
            obtain ⟨b1, b2⟩ := base_b s g1 g2 g4
            rw [b1, b2] at HP
            clear b1 b2 g2 g3 g4
            generalize (s.getD 0 0).toNat = x at *
            generalize (s.getD 1 0).toNat = y at *
            go_enter Tryz.func156, Tryz.ntmps156
            go_wp2_with fail
            go_region
            all_goals
              go_wp2_with fail
              refine (HP.out _).mono ?_
              rintro e w1 ⟨rfl, rfl⟩
              go_wp2_with fail
              go_ret2
              rw [HN2.out]
              first | exact ⟨rfl, (Below.refl _ _).drew⟩ | (refine ⟨?_, (Below.refl _ _).drew⟩; (first | (rw [if_pos hn]; done) | (rw [if_pos hn]; rfl) | (rw [if_neg (by omega)]; rfl)))
          · have e4 : (((s.getD 1 0).toNat : Int) == 98) = false := by rw [beq_eq_false_iff_ne]; omega
            obtain ⟨b1, b2⟩ := base_other s (.inr (.inr ⟨g3, g4⟩))
            rw [b1, b2] at HP
            clear b1 b2 g2 g3 g4
            generalize (s.getD 0 0).toNat = x at *
            generalize (s.getD 1 0).toNat = y at *
            go_enter Tryz.func156, Tryz.ntmps156
            go_wp2_with fail
            refine (HP.out _).mono ?_
            rintro e w1 ⟨rfl, rfl⟩
            go_wp2_with fail
            go_ret2
            rw [HN2.out]
            first | exact ⟨rfl, (Below.refl _ _)⟩ | (refine ⟨?_, (Below.refl _ _)⟩; (first | (rw [if_pos hn]; done) | (rw [if_pos hn]; rfl) | (rw [if_neg (by omega)]; rfl)))
      · have e2 : (((s.getD 0 0).toNat : Int) == 48) = false := by rw [beq_eq_false_iff_ne]; omega
        obtain ⟨b1, b2⟩ := base_other s (.inr (.inl g2))
        rw [b1, b2] at HP
        clear b1 b2 g2
        generalize (s.getD 0 0).toNat = x at *
        generalize (s.getD 1 0).toNat = y at *
        go_enter Tryz.func156, Tryz.ntmps156
        go_wp2_with fail
        refine (HP.out _).mono ?_
        rintro e w1 ⟨rfl, rfl⟩
        go_wp2_with fail
        go_ret2
        rw [HN2.out]
        first | exact ⟨rfl, (Below.refl _ _)⟩ | (refine ⟨?_, (Below.refl _ _)⟩; (first | (rw [if_pos hn]; done) | (rw [if_pos hn]; rfl) | (rw [if_neg (by omega)]; rfl)))
    · have e1 : decide ((1 : Int) < (s.length : Int)) = false := decide_eq_false (by omega)
      have e1n : decide (1 < s.length) = false := decide_eq_false g1
      obtain ⟨b1, b2⟩ := base_other s (.inl (by omega))
      rw [b1, b2] at HP
      clear b1 b2
      generalize (s.getD 0 0).toNat = x at *
      generalize (s.getD 1 0).toNat = y at *
      go_enter Tryz.func156, Tryz.ntmps156
      go_wp2_with fail
      refine (HP.out _).mono ?_
      rintro e w1 ⟨rfl, rfl⟩
      go_wp2_with fail
      go_ret2
      rw [HN2.out]
      first | exact ⟨rfl, (Below.refl _ _)⟩ | (refine ⟨?_, (Below.refl _ _)⟩; (first | (rw [if_pos hn]; done) | (rw [if_pos hn]; rfl) | (rw [if_neg (by omega)]; rfl)))
  case inr.inr.inl =>
    rw [hr] at hR HN
    have HP : Hid (∀ w, Calls Tryz.prog 157 #[.string (bstr (restOf s)), .int .i64 (baseOf s : Nat)] w fun e w' => e = .returned (.tuple (parsed (parseOf (baseOf s) (restOf s)))) ∧ w = w') := Lib.hid fun w => ParseN_any (restOf s) (baseOf s) w (by unfold baseOf; split <;> omega) (by unfold baseOf; split <;> omega) (by
      unfold restOf; split
      · simp only [List.length_cons] at hl; omega
      · simp only [List.length_cons] at hl; omega
      · exact hl)
    rw [← hR] at HP
    clear hR64 fin hR
    simp only [parsed] at HP
    have HNN := HN.out
    simp only at HNN
    have HN2 := Lib.hid HNN
    clear HNN HN h0 hN hr
    by_cases g1 : 1 < s.length
    · have e1 : decide ((1 : Int) < (s.length : Int)) = true := decide_eq_true (by omega)
      have e1n : decide (1 < s.length) = true := decide_eq_true g1
      have e1i : (1 : Int) < (s.length : Int) := by omega
      have e2i : (2 : Int) ≤ (s.length : Int) := by omega
      by_cases g2 : (s.getD 0 0).toNat = 48
      · have e2 : (((s.getD 0 0).toNat : Int) == 48) = true := by rw [beq_iff_eq]; omega
        by_cases g3 : (s.getD 1 0).toNat = 120
        · have e3 : (((s.getD 1 0).toNat : Int) == 120) = true := by rw [beq_iff_eq]; omega
          obtain ⟨b1, b2⟩ := base_x s g1 g2 g3
          rw [b1, b2] at HP
          clear b1 b2 g2 g3
          generalize (s.getD 0 0).toNat = x at *
          generalize (s.getD 1 0).toNat = y at *
          go_enter Tryz.func156, Tryz.ntmps156
          go_wp2_with fail
          go_region
          all_goals
            go_wp2_with fail
            refine (HP.out _).mono ?_
            rintro e w1 ⟨rfl, rfl⟩
            go_wp2_with fail
            go_ret2
            rw [HN2.out]
            first | exact ⟨rfl, (Below.refl _ _).drew⟩ | (refine ⟨?_, (Below.refl _ _).drew⟩; (first | (rw [if_pos hn]; done) | (rw [if_pos hn]; rfl) | (rw [if_neg (by omega)]; rfl)))
        · have e3 : (((s.getD 1 0).toNat : Int) == 120) = false := by rw [beq_eq_false_iff_ne]; omega
          by_cases g4 : (s.getD 1 0).toNat = 98
          · have e4 : (((s.getD 1 0).toNat : Int) == 98) = true := by rw [beq_iff_eq]; omega
            obtain ⟨b1, b2⟩ := base_b s g1 g2 g4
            rw [b1, b2] at HP
            clear b1 b2 g2 g3 g4
            generalize (s.getD 0 0).toNat = x at *
            generalize (s.getD 1 0).toNat = y at *
            go_enter Tryz.func156, Tryz.ntmps156
            go_wp2_with fail
            go_region
            all_goals
              go_wp2_with fail
              refine (HP.out _).mono ?_
              rintro e w1 ⟨rfl, rfl⟩
              go_wp2_with fail
              go_ret2
              rw [HN2.out]
              first | exact ⟨rfl, (Below.refl _ _).drew⟩ | (refine ⟨?_, (Below.refl _ _).drew⟩; (first | (rw [if_pos hn]; done) | (rw [if_pos hn]; rfl) | (rw [if_neg (by omega)]; rfl)))
          · have e4 : (((s.getD 1 0).toNat : Int) == 98) = false := by rw [beq_eq_false_iff_ne]; omega
            obtain ⟨b1, b2⟩ := base_other s (.inr (.inr ⟨g3, g4⟩))
            rw [b1, b2] at HP
            clear b1 b2 g2 g3 g4
            generalize (s.getD 0 0).toNat = x at *
            generalize (s.getD 1 0).toNat = y at *
            go_enter Tryz.func156, Tryz.ntmps156
            go_wp2_with fail
            refine (HP.out _).mono ?_
            rintro e w1 ⟨rfl, rfl⟩
            go_wp2_with fail
            go_ret2
            rw [HN2.out]
            first | exact ⟨rfl, (Below.refl _ _)⟩ | (refine ⟨?_, (Below.refl _ _)⟩; (first | (rw [if_pos hn]; done) | (rw [if_pos hn]; rfl) | (rw [if_neg (by omega)]; rfl)))
      · have e2 : (((s.getD 0 0).toNat : Int) == 48) = false := by rw [beq_eq_false_iff_ne]; omega
        obtain ⟨b1, b2⟩ := base_other s (.inr (.inl g2))
        rw [b1, b2] at HP
        clear b1 b2 g2
        generalize (s.getD 0 0).toNat = x at *
        generalize (s.getD 1 0).toNat = y at *
        go_enter Tryz.func156, Tryz.ntmps156
        go_wp2_with fail
        refine (HP.out _).mono ?_
        rintro e w1 ⟨rfl, rfl⟩
        go_wp2_with fail
        go_ret2
        rw [HN2.out]
        first | exact ⟨rfl, (Below.refl _ _)⟩ | (refine ⟨?_, (Below.refl _ _)⟩; (first | (rw [if_pos hn]; done) | (rw [if_pos hn]; rfl) | (rw [if_neg (by omega)]; rfl)))
    · have e1 : decide ((1 : Int) < (s.length : Int)) = false := decide_eq_false (by omega)
      have e1n : decide (1 < s.length) = false := decide_eq_false g1
      obtain ⟨b1, b2⟩ := base_other s (.inl (by omega))
      rw [b1, b2] at HP
      clear b1 b2
      generalize (s.getD 0 0).toNat = x at *
      generalize (s.getD 1 0).toNat = y at *
      go_enter Tryz.func156, Tryz.ntmps156
      go_wp2_with fail
      refine (HP.out _).mono ?_
      rintro e w1 ⟨rfl, rfl⟩
      go_wp2_with fail
      go_ret2
      rw [HN2.out]
      first | exact ⟨rfl, (Below.refl _ _)⟩ | (refine ⟨?_, (Below.refl _ _)⟩; (first | (rw [if_pos hn]; done) | (rw [if_pos hn]; rfl) | (rw [if_neg (by omega)]; rfl)))
  case inr.inr.inr => have := hR64 n hr; omega
end Go.Proofs.YtlomecfhobehnaaGreatDoor
end
