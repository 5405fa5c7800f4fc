/- Contract of digits.Number at a text that begins with no minus. -/
import Derived.Test.YtlpkebngehmimaaGreatDoorMgTypesMore8
section
/- Contract of digits.Number at a text that begins with no minus. -/
namespace Go.Proofs.YtlpkebngehmimaaGreatDoor
open Go.RowKit
set_option linter.unusedVariables false
set_option linter.unusedSimpArgs false
open Num
namespace Num
def numbered (r : Nat ⊕ Nat) : Array Value := match r with
  | .inl n => #[.int .i64 (n : Nat), .nilIface]
  | .inr e => #[.int .i64 0, .iface 35 (.int .i64 (e : Nat))]
theorem numOf_eq (s : List UInt8) : numOf s = match parseOf (baseOf s) (restOf s) with
  | .inr e => .inr e
  | .inl n => if n < 9223372036854775808 then .inl n else .inr 2 := rfl
theorem cut2 (s : List UInt8) : (bstr s).extract 2 s.length = bstr (s.drop 2) := by
  apply ByteArray.ext
  apply Array.ext'
  rw [ByteArray.data_extract, Array.toList_extract]
  show List.extract s 2 s.length = s.drop 2
  rw [List.extract_eq_take_drop]
  exact List.take_of_length_le (by rw [List.length_drop]; exact Nat.le_refl _)
theorem base_other (s : List UInt8) (h : s.length ≤ 1 ∨ (s.getD 0 0).toNat ≠ 48 ∨ ((s.getD 1 0).toNat ≠ 120 ∧ (s.getD 1 0).toNat ≠ 98)) : baseOf s = 10 ∧ restOf s = s := by
  unfold baseOf restOf
  split
  · rcases h with h | h | h
    · simp at h
    · exact absurd rfl h
    · exact absurd rfl h.1
  · rcases h with h | h | h
    · simp at h
    · exact absurd rfl h
    · exact absurd rfl h.2
  · exact ⟨rfl, rfl⟩
theorem base_x (s : List UInt8) (h : 1 < s.length) (h0 : (s.getD 0 0).toNat = 48) (h1 : (s.getD 1 0).toNat = 120) : baseOf s = 16 ∧ restOf s = s.drop 2 := by
  obtain ⟨a, b, r, rfl⟩ : ∃ a b r, s = a :: b :: r := by
    match s, h with
    | a :: b :: r, _ => exact ⟨a, b, r, rfl⟩
  have e0 : a = 48 := UInt8.toNat_inj.1 h0
  have e1 : b = 120 := UInt8.toNat_inj.1 h1
  subst e0 e1
  exact ⟨rfl, rfl⟩
theorem base_b (s : List UInt8) (h : 1 < s.length) (h0 : (s.getD 0 0).toNat = 48) (h1 : (s.getD 1 0).toNat = 98) : baseOf s = 2 ∧ restOf s = s.drop 2 := by
  obtain ⟨a, b, r, rfl⟩ : ∃ a b r, s = a :: b :: r := by
    match s, h with
    | a :: b :: r, _ => exact ⟨a, b, r, rfl⟩
  have e0 : a = 48 := UInt8.toNat_inj.1 h0
  have e1 : b = 98 := UInt8.toNat_inj.1 h1
  subst e0 e1
  exact ⟨rfl, rfl⟩
end Num
set_option maxRecDepth 100000 in
set_option maxHeartbeats 1000000 in
theorem Number_any (s : List UInt8) (w : World) (hl : s.length ≤ 100000) (h0 : s ≠ []) (hd : (s.getD 0 0).toNat ≠ 45) :
    Calls Tryz.prog 120 #[.string (bstr s)] w fun e w' => e = .returned (.tuple (numbered (numOf s))) ∧ Below w.heap.size w w' := by
  have hne : (s == []) = false := by rw [beq_eq_false_iff_ne]; exact h0
  have hne2 : s.isEmpty = false := by cases s with | nil => exact absurd rfl h0 | cons a b => rfl
  have hpos : 0 < s.length := List.length_pos_iff.2 h0
  have s0 : ∀ h : 0 < (bstr s).size, ((bstr s)[0]'h).toNat = (s.getD 0 0).toNat := fun h => by rw [bstr_at']
  have s1 : ∀ h : 1 < (bstr s).size, ((bstr s)[1]'h).toNat = (s.getD 1 0).toNat := fun h => by rw [bstr_at']
  have hx := cut2 s
  have d45 : (((s.getD 0 0).toNat : Int) == 45) = false := by rw [beq_eq_false_iff_ne]; omega
  obtain ⟨R, hR⟩ : ∃ R, R = parseOf (baseOf s) (restOf s) := ⟨_, rfl⟩
  have hN := numOf_eq s
  rw [← hR] at hN
  have HN := Lib.hid hN
  have fin : ∀ R : Nat ⊕ Nat, (∃ n, R = .inl n ∧ n < 9223372036854775808) ∨ (∃ n, R = .inl n ∧ 9223372036854775808 ≤ n ∧ n < 18446744073709551616) ∨ (∃ e, R = .inr e) ∨ (∃ n, R = .inl n ∧ 18446744073709551616 ≤ n) := by
    intro R
    cases R with
    | inl n => rcases Nat.lt_or_ge n 9223372036854775808 with h | h; exact .inl ⟨n, rfl, h⟩; rcases Nat.lt_or_ge n 18446744073709551616 with h2 | h2; exact .inr (.inl ⟨n, rfl, h, h2⟩); exact .inr (.inr (.inr ⟨n, rfl, h2⟩))
    | inr e => exact .inr (.inr (.inl ⟨e, rfl⟩))
  have hR64 : ∀ n, R = .inl n → n < 18446744073709551616 := by
    intro n e
    rw [hR] at e
    unfold parseOf at e
    split at e
    · cases e
    · split at e
      · split at e
        · cases e; assumption
        · cases e
      · cases e
  have hcase := fin R
  rcases hcase with ⟨n, hr, hn⟩ | ⟨n, hr, hn, hn2⟩ | ⟨en, hr⟩ | ⟨n, hr, hn⟩
  case inl =>
    have f1 : decide ((9223372036854775808 : Int) ≤ (n : Int)) = false := decide_eq_false (by omega)
    have f2 : IntKind.i64.wrap (n : Int) = (n : Int) := by rw [IntKind.wrap_i64]; omega
    rw [hr] at hR HN
    have HP : Hid (∀ w, Calls Tryz.prog 121 #[.string (bstr (restOf s)), .int .i64 (baseOf s : Nat)] w fun e w' => e = .returned (.tuple (parsed (parseOf (baseOf s) (restOf s)))) ∧ w = w') := Lib.hid fun w => ParseN_any (restOf s) (baseOf s) w (by unfold baseOf; split <;> omega) (by unfold baseOf; split <;> omega) (by
      unfold restOf; split
      · simp only [List.length_cons] at hl; omega
      · simp only [List.length_cons] at hl; omega
      · exact hl)
    rw [← hR] at HP
    clear hR64 fin hR
    simp only [parsed] at HP
    have HNN := HN.out
    simp only at HNN
    have HN2 := Lib.hid HNN
    clear HNN HN h0 hN hr
    by_cases g1 : 1 < s.length
    · have e1 : decide ((1 : Int) < (s.length : Int)) = true := decide_eq_true (by omega)
      have e1n : decide (1 < s.length) = true := decide_eq_true g1
      have e1i : (1 : Int) < (s.length : Int) := by omega
      have e2i : (2 : Int) ≤ (s.length : Int) := by omega
      by_cases g2 : (s.getD 0 0).toNat = 48
      · have e2 : (((s.getD 0 0).toNat : Int) == 48) = true := by rw [beq_iff_eq]; omega
        by_cases g3 : (s.getD 1 0).toNat = 120
        · have e3 : (((s.getD 1 0).toNat : Int) == 120) = true := by rw [beq_iff_eq]; omega
          obtain ⟨b1, b2⟩ := base_x s g1 g2 g3
          rw [b1, b2] at HP
          clear b1 b2 g2 g3
          generalize (s.getD 0 0).toNat = x at *
          generalize (s.getD 1 0).toNat = y at *
          go_enter Tryz.func120, Tryz.ntmps120
          go_wp2_with fail
          go_region
          all_goals
            go_wp2_with fail
            refine (HP.out _).mono ?_
            rintro e w1 ⟨rfl, rfl⟩
            go_wp2_with fail
            go_ret2
            rw [HN2.out]
            first | exact ⟨rfl, (Below.refl _ _).drew⟩ | (refine ⟨?_, (Below.refl _ _).drew⟩; (first | (rw [if_pos hn]; done) | (rw [if_pos hn]; rfl) | (rw [if_neg (by omega)]; rfl)))
        · have e3 : (((s.getD 1 0).toNat : Int) == 120) = false := by rw [beq_eq_false_iff_ne]; omega
          by_cases g4 : (s.getD 1 0).toNat = 98
          · have e4 : (((s.getD 1 0).toNat : Int) == 98) = true := by rw [beq_iff_eq]; omega
            obtain ⟨b1, b2⟩ := base_b s g1 g2 g4
            rw [b1, b2] at HP
            clear b1 b2 g2 g3 g4
            generalize (s.getD 0 0).toNat = x at *
            generalize (s.getD 1 0).toNat = y at *
            go_enter Tryz.func120, Tryz.ntmps120
            go_wp2_with fail
            go_region
            all_goals
              go_wp2_with fail
              refine (HP.out _).mono ?_
              rintro e w1 ⟨rfl, rfl⟩
              go_wp2_with fail
              go_ret2
              rw [HN2.out]
              first | exact ⟨rfl, (Below.refl _ _).drew⟩ | (refine ⟨?_, (Below.refl _ _).drew⟩; (first | (rw [if_pos hn]; done) | (rw [if_pos hn]; rfl) | (rw [if_neg (by omega)]; rfl)))
          · have e4 : (((s.getD 1 0).toNat : Int) == 98) = false := by rw [beq_eq_false_iff_ne]; omega
            obtain ⟨b1, b2⟩ := base_other s (.inr (.inr ⟨g3, g4⟩))
            rw [b1, b2] at HP
            clear b1 b2 g2 g3 g4
            generalize (s.getD 0 0).toNat = x at *
            generalize (s.getD 1 0).toNat = y at *
            go_enter Tryz.func120, Tryz.ntmps120
            go_wp2_with fail
            refine (HP.out _).mono ?_
            rintro e w1 ⟨rfl, rfl⟩
            go_wp2_with fail
            go_ret2
            rw [HN2.out]
            first | exact ⟨rfl, (Below.refl _ _)⟩ | (refine ⟨?_, (Below.refl _ _)⟩; (first | (rw [if_pos hn]; done) | (rw [if_pos hn]; rfl) | (rw [if_neg (by omega)]; rfl)))
      · have e2 : (((s.getD 0 0).toNat : Int) == 48) = false := by rw [beq_eq_false_iff_ne]; omega
        obtain ⟨b1, b2⟩ := base_other s (.inr (.inl g2))
        rw [b1, b2] at HP
        clear b1 b2 g2
        generalize (s.getD 0 0).toNat = x at *
        generalize (s.getD 1 0).toNat = y at *
        go_enter Tryz.func120, Tryz.ntmps120
        go_wp2_with fail
        refine (HP.out _).mono ?_
        rintro e w1 ⟨rfl, rfl⟩
        go_wp2_with fail
        go_ret2
        rw [HN2.out]
        first | exact ⟨rfl, (Below.refl _ _)⟩ | (refine ⟨?_, (Below.refl _ _)⟩; (first | (rw [if_pos hn]; done) | (rw [if_pos hn]; rfl) | (rw [if_neg (by omega)]; rfl)))
    · have e1 : decide ((1 : Int) < (s.length : Int)) = false := decide_eq_false (by omega)
      have e1n : decide (1 < s.length) = false := decide_eq_false g1
      obtain ⟨b1, b2⟩ := base_other s (.inl (by omega))
      rw [b1, b2] at HP
      clear b1 b2
      generalize (s.getD 0 0).toNat = x at *
      generalize (s.getD 1 0).toNat = y at *
      go_enter Tryz.func120, Tryz.ntmps120
      go_wp2_with fail
      refine (HP.out _).mono ?_
      rintro e w1 ⟨rfl, rfl⟩
      go_wp2_with fail
      go_ret2
      rw [HN2.out]
      first | exact ⟨rfl, (Below.refl _ _)⟩ | (refine ⟨?_, (Below.refl _ _)⟩; (first | (rw [if_pos hn]; done) | (rw [if_pos hn]; rfl) | (rw [if_neg (by omega)]; rfl)))
  case inr.inl =>
    have f1 : decide ((9223372036854775808 : Int) ≤ (n : Int)) = true := decide_eq_true (by omega)
    rw [hr] at hR HN
    have HP : Hid (∀ w, Calls Tryz.prog 121 #[.string (bstr (restOf s)), .int .i64 (baseOf s : Nat)] w fun e w' => e = .returned (.tuple (parsed (parseOf (baseOf s) (restOf s)))) ∧ w = w') := Lib.hid fun w => ParseN_any (restOf s) (baseOf s) w (by unfold baseOf; split <;> omega) (by unfold baseOf; split <;> omega) (by
      unfold restOf; split
      · simp only [List.length_cons] at hl; omega
      · simp only [List.length_cons] at hl; omega
      · exact hl)
    rw [← hR] at HP
    clear hR64 fin hR
    simp only [parsed] at HP
    have HNN := HN.out
    simp only at HNN
    have HN2 := Lib.hid HNN
    clear HNN HN h0 hN hr
    by_cases g1 : 1 < s.length
    · have e1 : decide ((1 : Int) < (s.length : Int)) = true := decide_eq_true (by omega)
      have e1n : decide (1 < s.length) = true := decide_eq_true g1
      have e1i : (1 : Int) < (s.length : Int) := by omega
      have e2i : (2 : Int) ≤ (s.length : Int) := by omega
      by_cases g2 : (s.getD 0 0).toNat = 48
      · have e2 : (((s.getD 0 0).toNat : Int) == 48) = true := by rw [beq_iff_eq]; omega
        by_cases g3 : (s.getD 1 0).toNat = 120
        · have e3 : (((s.getD 1 0).toNat : Int) == 120) = true := by rw [beq_iff_eq]; omega
          obtain ⟨b1, b2⟩ := base_x s g1 g2 g3
          rw [b1, b2] at HP
          clear b1 b2 g2 g3
          generalize (s.getD 0 0).toNat = x at *
          generalize (s.getD 1 0).toNat = y at *
          go_enter Tryz.func120, Tryz.ntmps120
          go_wp2_with fail
          go_region
          all_goals
            go_wp2_with fail
            refine (HP.out _).mono ?_
            rintro e w1 ⟨rfl, rfl⟩
            go_wp2_with fail
            go_ret2
            rw [HN2.out]
            first | exact ⟨rfl, (Below.refl _ _).drew⟩ | (refine ⟨?_, (Below.refl _ _).drew⟩; (first | (rw [if_pos hn]; done) | (rw [if_pos hn]; rfl) | (rw [if_neg (by omega)]; rfl)))
        · have e3 : (((s.getD 1 0).toNat : Int) == 120) = false := by rw [beq_eq_false_iff_ne]; omega
          by_cases g4 : (s.getD 1 0).toNat = 98
          · have e4 : (((s.getD 1 0).toNat : Int) == 98) = true := by rw [beq_iff_eq]; omega
            obtain ⟨b1, b2⟩ := base_b s g1 g2 g4
            rw [b1, b2] at HP
            clear b1 b2 g2 g3 g4
            generalize (s.getD 0 0).toNat = x at *
            generalize (s.getD 1 0).toNat = y at *
            go_enter Tryz.func120, Tryz.ntmps120
            go_wp2_with fail
            go_region
            all_goals
              go_wp2_with fail
              refine (HP.out _).mono ?_
              rintro e w1 ⟨rfl, rfl⟩
              go_wp2_with fail
              go_ret2
              rw [HN2.out]
              first | exact ⟨rfl, (Below.refl _ _).drew⟩ | (refine ⟨?_, (Below.refl _ _).drew⟩; (first | (rw [if_pos hn]; done) | (rw [if_pos hn]; rfl) | (rw [if_neg (by omega)]; rfl)))
          · have e4 : (((s.getD 1 0).toNat : Int) == 98) = false := by rw [beq_eq_false_iff_ne]; omega
            obtain ⟨b1, b2⟩ := base_other s (.inr (.inr ⟨g3, g4⟩))
            rw [b1, b2] at HP
            clear b1 b2 g2 g3 g4
            generalize (s.getD 0 0).toNat = x at *
            generalize (s.getD 1 0).toNat = y at *
            go_enter Tryz.func120, Tryz.ntmps120
            go_wp2_with fail
            refine (HP.out _).mono ?_
            rintro e w1 ⟨rfl, rfl⟩
            go_wp2_with fail
            go_ret2
            rw [HN2.out]
            first | exact ⟨rfl, (Below.refl _ _)⟩ | (refine ⟨?_, (Below.refl _ _)⟩; (first | (rw [if_pos hn]; done) | (rw [if_pos hn]; rfl) | (rw [if_neg (by omega)]; rfl)))
      · have e2 : (((s.getD 0 0).toNat : Int) == 48) = false := by rw [beq_eq_false_iff_ne]; omega
        obtain ⟨b1, b2⟩ := base_other s (.inr (.inl g2))
        rw [b1, b2] at HP
        clear b1 b2 g2
        generalize (s.getD 0 0).toNat = x at *
        generalize (s.getD 1 0).toNat = y at *
        go_enter Tryz.func120, Tryz.ntmps120
        go_wp2_with fail
        refine (HP.out _).mono ?_
        rintro e w1 ⟨rfl, rfl⟩
        go_wp2_with fail
        go_ret2
        rw [HN2.out]
        first | exact ⟨rfl, (Below.refl _ _)⟩ | (refine ⟨?_, (Below.refl _ _)⟩; (first | (rw [if_pos hn]; done) | (rw [if_pos hn]; rfl) | (rw [if_neg (by omega)]; rfl)))
    · have e1 : decide ((1 : Int) < (s.length : Int)) = false := decide_eq_false (by omega)
      have e1n : decide (1 < s.length) = false := decide_eq_false g1
      obtain ⟨b1, b2⟩ := base_other s (.inl (by omega))
      rw [b1, b2] at HP
      clear b1 b2
      generalize (s.getD 0 0).toNat = x at *
      generalize (s.getD 1 0).toNat = y at *
      go_enter Tryz.func120, Tryz.ntmps120
      go_wp2_with fail
      refine (HP.out _).mono ?_
      rintro e w1 ⟨rfl, rfl⟩
      go_wp2_with fail
      go_ret2
      rw [HN2.out]
      first | exact ⟨rfl, (Below.refl _ _)⟩ | (refine ⟨?_, (Below.refl _ _)⟩; (first | (rw [if_pos hn]; done) | (rw [if_pos hn]; rfl) | (rw [if_neg (by omega)]; rfl)))
  case inr.inr.inl =>
    rw [hr] at hR HN
    have HP : Hid (∀ w, Calls Tryz.prog 121 #[.string (bstr (restOf s)), .int .i64 (baseOf s : Nat)] w fun e w' => e = .returned (.tuple (parsed (parseOf (baseOf s) (restOf s)))) ∧ w = w') := Lib.hid fun w => ParseN_any (restOf s) (baseOf s) w (by unfold baseOf; split <;> omega) (by unfold baseOf; split <;> omega) (by
      unfold restOf; split
      · simp only [List.length_cons] at hl; omega
      · simp only [List.length_cons] at hl; omega
      · exact hl)
    rw [← hR] at HP
    clear hR64 fin hR
    simp only [parsed] at HP
    have HNN := HN.out
    simp only at HNN
    have HN2 := Lib.hid HNN
    clear HNN HN h0 hN hr
    by_cases g1 : 1 < s.length
    · have e1 : decide ((1 : Int) < (s.length : Int)) = true := decide_eq_true (by omega)
      have e1n : decide (1 < s.length) = true := decide_eq_true g1
      have e1i : (1 : Int) < (s.length : Int) := by omega
      have e2i : (2 : Int) ≤ (s.length : Int) := by omega
      by_cases g2 : (s.getD 0 0).toNat = 48
      · have e2 : (((s.getD 0 0).toNat : Int) == 48) = true := by rw [beq_iff_eq]; omega
        by_cases g3 : (s.getD 1 0).toNat = 120
        · have e3 : (((s.getD 1 0).toNat : Int) == 120) = true := by rw [beq_iff_eq]; omega
          obtain ⟨b1, b2⟩ := base_x s g1 g2 g3
          rw [b1, b2] at HP
          clear b1 b2 g2 g3
          generalize (s.getD 0 0).toNat = x at *
          generalize (s.getD 1 0).toNat = y at *
          go_enter Tryz.func120, Tryz.ntmps120
          go_wp2_with fail
          go_region
          all_goals
            go_wp2_with fail
            refine (HP.out _).mono ?_
            rintro e w1 ⟨rfl, rfl⟩
            go_wp2_with fail
            go_ret2
            rw [HN2.out]
            first | exact ⟨rfl, (Below.refl _ _).drew⟩ | (refine ⟨?_, (Below.refl _ _).drew⟩; (first | (rw [if_pos hn]; done) | (rw [if_pos hn]; rfl) | (rw [if_neg (by omega)]; rfl)))
        · have e3 : (((s.getD 1 0).toNat : Int) == 120) = false := by rw [beq_eq_false_iff_ne]; omega
          by_cases g4 : (s.getD 1 0).toNat = 98
          · have e4 : (((s.getD 1 0).toNat : Int) == 98) = true := by rw [beq_iff_eq]; omega
            obtain ⟨b1, b2⟩ := base_b s g1 g2 g4
            rw [b1, b2] at HP
            clear b1 b2 g2 g3 g4
            generalize (s.getD 0 0).toNat = x at *
            generalize (s.getD 1 0).toNat = y at *
            go_enter Tryz.func120, Tryz.ntmps120
            go_wp2_with fail
            go_region
            all_goals
              go_wp2_with fail
              refine (HP.out _).mono ?_
              rintro e w1 ⟨rfl, rfl⟩
              go_wp2_with fail
              go_ret2
              rw [HN2.out]
              first | exact ⟨rfl, (Below.refl _ _).drew⟩ | (refine ⟨?_, (Below.refl _ _).drew⟩; (first | (rw [if_pos hn]; done) | (rw [if_pos hn]; rfl) | (rw [if_neg (by omega)]; rfl)))
          · have e4 : (((s.getD 1 0).toNat : Int) == 98) = false := by rw [beq_eq_false_iff_ne]; omega
            obtain ⟨b1, b2⟩ := base_other s (.inr (.inr ⟨g3, g4⟩))
            rw [b1, b2] at HP
            clear b1 b2 g2 g3 g4
            generalize (s.getD 0 0).toNat = x at *
            generalize (s.getD 1 0).toNat = y at *
            go_enter Tryz.func120, Tryz.ntmps120
            go_wp2_with fail
            refine (HP.out _).mono ?_
            rintro e w1 ⟨rfl, rfl⟩
            go_wp2_with fail
            go_ret2
            rw [HN2.out]
            first | exact ⟨rfl, (Below.refl _ _)⟩ | (refine ⟨?_, (Below.refl _ _)⟩; (first | (rw [if_pos hn]; done) | (rw [if_pos hn]; rfl) | (rw [if_neg (by omega)]; rfl)))
      · have e2 : (((s.getD 0 0).toNat : Int) == 48) = false := by rw [beq_eq_false_iff_ne]; omega
        obtain ⟨b1, b2⟩ := base_other s (.inr (.inl g2))
        rw [b1, b2] at HP
        clear b1 b2 g2
        generalize (s.getD 0 0).toNat = x at *
        generalize (s.getD 1 0).toNat = y at *
        go_enter Tryz.func120, Tryz.ntmps120
        go_wp2_with fail
        refine (HP.out _).mono ?_
        rintro e w1 ⟨rfl, rfl⟩
        go_wp2_with fail
        go_ret2
        rw [HN2.out]
        first | exact ⟨rfl, (Below.refl _ _)⟩ | (refine ⟨?_, (Below.refl _ _)⟩; (first | (rw [if_pos hn]; done) | (rw [if_pos hn]; rfl) | (rw [if_neg (by omega)]; rfl)))
    · have e1 : decide ((1 : Int) < (s.length : Int)) = false := decide_eq_false (by omega)
      have e1n : decide (1 < s.length) = false := decide_eq_false g1
      obtain ⟨b1, b2⟩ := base_other s (.inl (by omega))
      rw [b1, b2] at HP
      clear b1 b2
      generalize (s.getD 0 0).toNat = x at *
      generalize (s.getD 1 0).toNat = y at *
      go_enter Tryz.func120, Tryz.ntmps120
      go_wp2_with fail
      refine (HP.out _).mono ?_
      rintro e w1 ⟨rfl, rfl⟩
      go_wp2_with fail
      go_ret2
      rw [HN2.out]
      first | exact ⟨rfl, (Below.refl _ _)⟩ | (refine ⟨?_, (Below.refl _ _)⟩; (first | (rw [if_pos hn]; done) | (rw [if_pos hn]; rfl) | (rw [if_neg (by omega)]; rfl)))
  case inr.inr.inr => have := hR64 n hr; omega
end Go.Proofs.YtlpkebngehmimaaGreatDoor
end
