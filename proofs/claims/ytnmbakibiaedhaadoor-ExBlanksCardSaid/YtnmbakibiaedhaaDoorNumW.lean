/- Contract of digits.Number at any text that is not empty. -/
import Derived.Test.YtnmbakibiaedhaaDoorNumB
import Derived.Test.YtnmbakibiaedhaaDoorPlainEx2
namespace Go.Proofs.YtnmbakibiaedhaaDoor
open Go.RowKit
set_option linter.unusedVariables false
set_option linter.unusedSimpArgs false
open Num
def NumOut (o : Option Int) (e : Ending) : Prop := match o with
  | some z => e = .returned (.tuple #[.int .i64 z, .nilIface])
  | none => ∃ k : Int, e = .returned (.tuple #[.int .i64 0, .iface 31 (.int .i64 k)])
theorem cut1 (c : UInt8) (r : List UInt8) : (bstr (c :: r)).extract 1 (r.length + 1) = bstr r := by
  apply ByteArray.ext
  apply Array.ext'
  rw [ByteArray.data_extract, Array.toList_extract]
  show List.extract (c :: r) 1 (r.length + 1) = r
  rw [List.extract_eq_take_drop]
  simp
theorem neg_wrap (n : Nat) (h : n ≤ 9223372036854775808) : IntKind.i64.wrap (IntKind.u64.wrap (-(n : Int))) = -(n : Int) := by
  rw [IntKind.wrap_u64, IntKind.wrap_i64]
  omega
/-- what is read behind the minus, by its base -/
inductive BaseIs (t : List UInt8) : Nat → List UInt8 → Prop where
  | x : 1 < t.length → (t.getD 0 0).toNat = 48 → (t.getD 1 0).toNat = 120 → BaseIs t 16 (t.drop 2)
  | b : 1 < t.length → (t.getD 0 0).toNat = 48 → (t.getD 1 0).toNat = 98 → BaseIs t 2 (t.drop 2)
  | o : 1 < t.length → (t.getD 0 0).toNat = 48 → (t.getD 1 0).toNat ≠ 120 → (t.getD 1 0).toNat ≠ 98 → BaseIs t 10 t
  | p : 1 < t.length → (t.getD 0 0).toNat ≠ 48 → BaseIs t 10 t
  | q : ¬ 1 < t.length → BaseIs t 10 t
theorem base_is (t : List UInt8) : BaseIs t (baseOf t) (restOf t) := by
  by_cases g1 : 1 < t.length
  · by_cases g2 : (t.getD 0 0).toNat = 48
    · by_cases g3 : (t.getD 1 0).toNat = 120
      · obtain ⟨b1, b2⟩ := base_x t g1 g2 g3
        rw [b1, b2]; exact .x g1 g2 g3
      · by_cases g4 : (t.getD 1 0).toNat = 98
        · obtain ⟨b1, b2⟩ := base_b t g1 g2 g4
          rw [b1, b2]; exact .b g1 g2 g4
        · obtain ⟨b1, b2⟩ := base_other t (.inr (.inr ⟨g3, g4⟩))
          rw [b1, b2]; exact .o g1 g2 g3 g4
    · obtain ⟨b1, b2⟩ := base_other t (.inr (.inl g2))
      rw [b1, b2]; exact .p g1 g2
  · obtain ⟨b1, b2⟩ := base_other t (.inl (by omega))
    rw [b1, b2]; exact .q g1
theorem BaseIs.bounds {t l : List UInt8} {b : Nat} (h : BaseIs t b l) : 2 ≤ b ∧ b ≤ 16 ∧ l.length ≤ t.length := by
  cases h <;> (try rw [List.length_drop]) <;> omega
def negOut (R : Nat ⊕ Nat) : Option Int := match R with
  | .inl n => if n ≤ 9223372036854775808 then some (-(n : Int)) else none
  | .inr _ => none
theorem parse_lt {b : Nat} {l : List UInt8} {n : Nat} (h : parseOf b l = .inl n) : n < 18446744073709551616 := by
  unfold parseOf at h
  split at h
  · cases h
  · split at h
    · split at h
      · cases h; assumption
      · cases h
    · cases h
set_option maxRecDepth 100000 in
set_option maxHeartbeats 2000000 in
theorem Number_neg (r : List UInt8) (w : World) (hl : r.length ≤ 90000) :
    Calls Tryd.prog 67 #[.string (bstr (45 :: r))] w fun e w' => NumOut (negOut (parseOf (baseOf r) (restOf r))) e ∧ Below w.heap.size w w' := by
  have hb := base_is r
  have hp := fun w => ParseN_any (restOf r) (baseOf r) w hb.bounds.1 hb.bounds.2.1 (by have := hb.bounds.2.2; omega)
  have hlt := fun n => parse_lt (b := baseOf r) (l := restOf r) (n := n)
  generalize parseOf (baseOf r) (restOf r) = R at *
  generalize baseOf r = bs at *
  generalize restOf r = tl at *
  have hx1 := cut1 45 r
  have hx2 := cut2 r
  have r0 : ∀ h : 0 < (bstr r).size, ((bstr r)[0]'h).toNat = (r.getD 0 0).toNat := fun h => by rw [bstr_at']
  have r1 : ∀ h : 1 < (bstr r).size, ((bstr r)[1]'h).toNat = (r.getD 1 0).toNat := fun h => by rw [bstr_at']
  obtain ⟨s, hs⟩ : ∃ s, s = 45 :: r := ⟨_, rfl⟩
  have s0 : ∀ h : 0 < (bstr s).size, ((bstr s)[0]'h).toNat = 45 := by rw [hs]; intro h; rfl
  have hsl : s.length = r.length + 1 := by rw [hs]; rfl
  rw [← hs] at hx1 ⊢
  rw [← hsl] at hx1
  have hne : (s == []) = false := by rw [hs]; rfl
  have hne2 : s.isEmpty = false := by rw [hs]; rfl
  have h1s : (1 : Int) ≤ (s.length : Int) := by omega
  have hpos : 0 < s.length := by omega
  have hl2 : s.length ≤ 100000 := by omega
  clear hs hsl
  have key : (∃ n, R = .inl n ∧ n ≤ 9223372036854775808) ∨ (∃ n, R = .inl n ∧ 9223372036854775808 < n ∧ n < 18446744073709551616) ∨ (∃ e, R = .inr e) := by
    cases R with
    | inl n => rcases Nat.lt_or_ge 9223372036854775808 n with h | h; exact .inr (.inl ⟨n, rfl, h, hlt n rfl⟩); exact .inl ⟨n, rfl, h⟩
    | inr e => exact .inr (.inr ⟨e, rfl⟩)
  clear hlt
  rcases key with ⟨n, rfl, hn⟩ | ⟨n, rfl, hn, hn2⟩ | ⟨en, rfl⟩
  · have f1 : decide ((n : Int) ≤ 9223372036854775808) = true := decide_eq_true (by omega)
    have f2 := neg_wrap n hn
    have ho : negOut (.inl n) = some (-(n : Int)) := if_pos hn
    simp only [parsed] at hp
    have HP := Lib.hid hp; have HO := Lib.hid ho
    clear hp ho
    clear hn
    cases hb with
    | x hA hB hC =>
      have e1 : decide ((1 : Int) < (r.length : Int)) = true := decide_eq_true (by omega)
      have e1n : decide (1 < r.length) = true := decide_eq_true hA
      have e1i : (1 : Int) < (r.length : Int) := by omega
      have e2i : (2 : Int) ≤ (r.length : Int) := by omega
      have e2 : (((r.getD 0 0).toNat : Int) == 48) = true := by rw [beq_iff_eq]; omega
      have e3 : (((r.getD 1 0).toNat : Int) == 120) = true := by rw [beq_iff_eq]; omega
      clear hB hC
      generalize (r.getD 0 0).toNat = x0 at *
      generalize (r.getD 1 0).toNat = y0 at *
      go_enter Tryd.func67, Tryd.ntmps67
      go_wp2_with fail
      go_region
      all_goals
        go_wp2_with fail
        refine (HP.out _).mono ?_
        rintro e w1 ⟨rfl, rfl⟩
        go_wp2_with fail
        go_ret2
        rw [HO.out]
        first | exact ⟨rfl, (Below.refl _ _).drew⟩ | exact ⟨⟨_, rfl⟩, (Below.refl _ _).drew⟩
    | b hA hB hC =>
      have e1 : decide ((1 : Int) < (r.length : Int)) = true := decide_eq_true (by omega)
      have e1n : decide (1 < r.length) = true := decide_eq_true hA
      have e1i : (1 : Int) < (r.length : Int) := by omega
      have e2i : (2 : Int) ≤ (r.length : Int) := by omega
      have e2 : (((r.getD 0 0).toNat : Int) == 48) = true := by rw [beq_iff_eq]; omega
      have e3 : (((r.getD 1 0).toNat : Int) == 120) = false := by rw [beq_eq_false_iff_ne]; omega
      have e4 : (((r.getD 1 0).toNat : Int) == 98) = true := by rw [beq_iff_eq]; omega
      clear hB hC
      generalize (r.getD 0 0).toNat = x0 at *
      generalize (r.getD 1 0).toNat = y0 at *
      go_enter Tryd.func67, Tryd.ntmps67
      go_wp2_with fail
      go_region
      all_goals
        go_wp2_with fail
        refine (HP.out _).mono ?_
        rintro e w1 ⟨rfl, rfl⟩
        go_wp2_with fail
        go_ret2
        rw [HO.out]
        first | exact ⟨rfl, (Below.refl _ _).drew⟩ | exact ⟨⟨_, rfl⟩, (Below.refl _ _).drew⟩
    | o hA hB hC hD =>
      have e1 : decide ((1 : Int) < (r.length : Int)) = true := decide_eq_true (by omega)
      have e1n : decide (1 < r.length) = true := decide_eq_true hA
      have e1i : (1 : Int) < (r.length : Int) := by omega
      have e2 : (((r.getD 0 0).toNat : Int) == 48) = true := by rw [beq_iff_eq]; omega
      have e3 : (((r.getD 1 0).toNat : Int) == 120) = false := by rw [beq_eq_false_iff_ne]; omega
      have e4 : (((r.getD 1 0).toNat : Int) == 98) = false := by rw [beq_eq_false_iff_ne]; omega
      clear hB hC hD
      generalize (r.getD 0 0).toNat = x0 at *
      generalize (r.getD 1 0).toNat = y0 at *
      go_enter Tryd.func67, Tryd.ntmps67
      go_wp2_with fail
      refine (HP.out _).mono ?_
      rintro e w1 ⟨rfl, rfl⟩
      go_wp2_with fail
      go_ret2
      rw [HO.out]
      first | exact ⟨rfl, Below.refl _ _⟩ | exact ⟨⟨_, rfl⟩, Below.refl _ _⟩
    | p hA hB =>
      have e1 : decide ((1 : Int) < (r.length : Int)) = true := decide_eq_true (by omega)
      have e1n : decide (1 < r.length) = true := decide_eq_true hA
      have e1i : (1 : Int) < (r.length : Int) := by omega
      have e2 : (((r.getD 0 0).toNat : Int) == 48) = false := by rw [beq_eq_false_iff_ne]; omega
      clear hB
      generalize (r.getD 0 0).toNat = x0 at *
      generalize (r.getD 1 0).toNat = y0 at *
      go_enter Tryd.func67, Tryd.ntmps67
      go_wp2_with fail
      refine (HP.out _).mono ?_
      rintro e w1 ⟨rfl, rfl⟩
      go_wp2_with fail
      go_ret2
      rw [HO.out]
      first | exact ⟨rfl, Below.refl _ _⟩ | exact ⟨⟨_, rfl⟩, Below.refl _ _⟩
    | q hA =>
      have e1 : decide ((1 : Int) < (r.length : Int)) = false := decide_eq_false (by omega)
      have e1n : decide (1 < r.length) = false := decide_eq_false hA
      generalize (r.getD 0 0).toNat = x0 at *
      generalize (r.getD 1 0).toNat = y0 at *
      go_enter Tryd.func67, Tryd.ntmps67
      go_wp2_with fail
      refine (HP.out _).mono ?_
      rintro e w1 ⟨rfl, rfl⟩
      go_wp2_with fail
      go_ret2
      rw [HO.out]
      first | exact ⟨rfl, Below.refl _ _⟩ | exact ⟨⟨_, rfl⟩, Below.refl _ _⟩
  · have f1 : decide ((n : Int) ≤ 9223372036854775808) = false := decide_eq_false (by omega)
    have f2 : decide ((9223372036854775808 : Int) ≤ (n : Int)) = true := decide_eq_true (by omega)
    have ho : negOut (.inl n) = none := if_neg (by omega)
    simp only [parsed] at hp
    have HP := Lib.hid hp; have HO := Lib.hid ho
    clear hp ho
    clear hn hn2
    cases hb with
    | x hA hB hC =>
      have e1 : decide ((1 : Int) < (r.length : Int)) = true := decide_eq_true (by omega)
      have e1n : decide (1 < r.length) = true := decide_eq_true hA
      have e1i : (1 : Int) < (r.length : Int) := by omega
      have e2i : (2 : Int) ≤ (r.length : Int) := by omega
      have e2 : (((r.getD 0 0).toNat : Int) == 48) = true := by rw [beq_iff_eq]; omega
      have e3 : (((r.getD 1 0).toNat : Int) == 120) = true := by rw [beq_iff_eq]; omega
      clear hB hC
      generalize (r.getD 0 0).toNat = x0 at *
      generalize (r.getD 1 0).toNat = y0 at *
      go_enter Tryd.func67, Tryd.ntmps67
      go_wp2_with fail
      go_region
      all_goals
        go_wp2_with fail
        refine (HP.out _).mono ?_
        rintro e w1 ⟨rfl, rfl⟩
        go_wp2_with fail
        go_ret2
        rw [HO.out]
        first | exact ⟨rfl, (Below.refl _ _).drew⟩ | exact ⟨⟨_, rfl⟩, (Below.refl _ _).drew⟩
    | b hA hB hC =>
      have e1 : decide ((1 : Int) < (r.length : Int)) = true := decide_eq_true (by omega)
      have e1n : decide (1 < r.length) = true := decide_eq_true hA
      have e1i : (1 : Int) < (r.length : Int) := by omega
      have e2i : (2 : Int) ≤ (r.length : Int) := by omega
      have e2 : (((r.getD 0 0).toNat : Int) == 48) = true := by rw [beq_iff_eq]; omega
      have e3 : (((r.getD 1 0).toNat : Int) == 120) = false := by rw [beq_eq_false_iff_ne]; omega
      have e4 : (((r.getD 1 0).toNat : Int) == 98) = true := by rw [beq_iff_eq]; omega
      clear hB hC
      generalize (r.getD 0 0).toNat = x0 at *
      generalize (r.getD 1 0).toNat = y0 at *
      go_enter Tryd.func67, Tryd.ntmps67
      go_wp2_with fail
      go_region
      all_goals
        go_wp2_with fail
        refine (HP.out _).mono ?_
        rintro e w1 ⟨rfl, rfl⟩
        go_wp2_with fail
        go_ret2
        rw [HO.out]
        first | exact ⟨rfl, (Below.refl _ _).drew⟩ | exact ⟨⟨_, rfl⟩, (Below.refl _ _).drew⟩
    | o hA hB hC hD =>
      have e1 : decide ((1 : Int) < (r.length : Int)) = true := decide_eq_true (by omega)
      have e1n : decide (1 < r.length) = true := decide_eq_true hA
      have e1i : (1 : Int) < (r.length : Int) := by omega
      have e2 : (((r.getD 0 0).toNat : Int) == 48) = true := by rw [beq_iff_eq]; omega
      have e3 : (((r.getD 1 0).toNat : Int) == 120) = false := by rw [beq_eq_false_iff_ne]; omega
      have e4 : (((r.getD 1 0).toNat : Int) == 98) = false := by rw [beq_eq_false_iff_ne]; omega
      clear hB hC hD
      generalize (r.getD 0 0).toNat = x0 at *
      generalize (r.getD 1 0).toNat = y0 at *
      go_enter Tryd.func67, Tryd.ntmps67
      go_wp2_with fail
      refine (HP.out _).mono ?_
      rintro e w1 ⟨rfl, rfl⟩
      go_wp2_with fail
      go_ret2
      rw [HO.out]
      first | exact ⟨rfl, Below.refl _ _⟩ | exact ⟨⟨_, rfl⟩, Below.refl _ _⟩
    | p hA hB =>
      have e1 : decide ((1 : Int) < (r.length : Int)) = true := decide_eq_true (by omega)
      have e1n : decide (1 < r.length) = true := decide_eq_true hA
      have e1i : (1 : Int) < (r.length : Int) := by omega
      have e2 : (((r.getD 0 0).toNat : Int) == 48) = false := by rw [beq_eq_false_iff_ne]; omega
      clear hB
      generalize (r.getD 0 0).toNat = x0 at *
      generalize (r.getD 1 0).toNat = y0 at *
      go_enter Tryd.func67, Tryd.ntmps67
      go_wp2_with fail
      refine (HP.out _).mono ?_
      rintro e w1 ⟨rfl, rfl⟩
      go_wp2_with fail
      go_ret2
      rw [HO.out]
      first | exact ⟨rfl, Below.refl _ _⟩ | exact ⟨⟨_, rfl⟩, Below.refl _ _⟩
    | q hA =>
      have e1 : decide ((1 : Int) < (r.length : Int)) = false := decide_eq_false (by omega)
      have e1n : decide (1 < r.length) = false := decide_eq_false hA
      generalize (r.getD 0 0).toNat = x0 at *
      generalize (r.getD 1 0).toNat = y0 at *
      go_enter Tryd.func67, Tryd.ntmps67
      go_wp2_with fail
      refine (HP.out _).mono ?_
      rintro e w1 ⟨rfl, rfl⟩
      go_wp2_with fail
      go_ret2
      rw [HO.out]
      first | exact ⟨rfl, Below.refl _ _⟩ | exact ⟨⟨_, rfl⟩, Below.refl _ _⟩
  · have ho : negOut (.inr en) = none := rfl
    simp only [parsed] at hp
    have HP := Lib.hid hp; have HO := Lib.hid ho
    clear hp ho
    cases hb with
    | x hA hB hC =>
      have e1 : decide ((1 : Int) < (r.length : Int)) = true := decide_eq_true (by omega)
      have e1n : decide (1 < r.length) = true := decide_eq_true hA
      have e1i : (1 : Int) < (r.length : Int) := by omega
      have e2i : (2 : Int) ≤ (r.length : Int) := by omega
      have e2 : (((r.getD 0 0).toNat : Int) == 48) = true := by rw [beq_iff_eq]; omega
      have e3 : (((r.getD 1 0).toNat : Int) == 120) = true := by rw [beq_iff_eq]; omega
      clear hB hC
      generalize (r.getD 0 0).toNat = x0 at *
      generalize (r.getD 1 0).toNat = y0 at *
      go_enter Tryd.func67, Tryd.ntmps67
      go_wp2_with fail
      go_region
      all_goals
        go_wp2_with fail
        refine (HP.out _).mono ?_
        rintro e w1 ⟨rfl, rfl⟩
        go_wp2_with fail
        go_ret2
        rw [HO.out]
        first | exact ⟨rfl, (Below.refl _ _).drew⟩ | exact ⟨⟨_, rfl⟩, (Below.refl _ _).drew⟩
    | b hA hB hC =>
      have e1 : decide ((1 : Int) < (r.length : Int)) = true := decide_eq_true (by omega)
      have e1n : decide (1 < r.length) = true := decide_eq_true hA
      have e1i : (1 : Int) < (r.length : Int) := by omega
      have e2i : (2 : Int) ≤ (r.length : Int) := by omega
      have e2 : (((r.getD 0 0).toNat : Int) == 48) = true := by rw [beq_iff_eq]; omega
      have e3 : (((r.getD 1 0).toNat : Int) == 120) = false := by rw [beq_eq_false_iff_ne]; omega
      have e4 : (((r.getD 1 0).toNat : Int) == 98) = true := by rw [beq_iff_eq]; omega
      clear hB hC
      generalize (r.getD 0 0).toNat = x0 at *
      generalize (r.getD 1 0).toNat = y0 at *
      go_enter Tryd.func67, Tryd.ntmps67
      go_wp2_with fail
      go_region
      all_goals
        go_wp2_with fail
        refine (HP.out _).mono ?_
        rintro e w1 ⟨rfl, rfl⟩
        go_wp2_with fail
        go_ret2
        rw [HO.out]
        first | exact ⟨rfl, (Below.refl _ _).drew⟩ | exact ⟨⟨_, rfl⟩, (Below.refl _ _).drew⟩
    | o hA hB hC hD =>
      have e1 : decide ((1 : Int) < (r.length : Int)) = true := decide_eq_true (by omega)
      have e1n : decide (1 < r.length) = true := decide_eq_true hA
      have e1i : (1 : Int) < (r.length : Int) := by omega
      have e2 : (((r.getD 0 0).toNat : Int) == 48) = true := by rw [beq_iff_eq]; omega
      have e3 : (((r.getD 1 0).toNat : Int) == 120) = false := by rw [beq_eq_false_iff_ne]; omega
      have e4 : (((r.getD 1 0).toNat : Int) == 98) = false := by rw [beq_eq_false_iff_ne]; omega
      clear hB hC hD
      generalize (r.getD 0 0).toNat = x0 at *
      generalize (r.getD 1 0).toNat = y0 at *
      go_enter Tryd.func67, Tryd.ntmps67
      go_wp2_with fail
      refine (HP.out _).mono ?_
      rintro e w1 ⟨rfl, rfl⟩
      go_wp2_with fail
      go_ret2
      rw [HO.out]
      first | exact ⟨rfl, Below.refl _ _⟩ | exact ⟨⟨_, rfl⟩, Below.refl _ _⟩
    | p hA hB =>
      have e1 : decide ((1 : Int) < (r.length : Int)) = true := decide_eq_true (by omega)
      have e1n : decide (1 < r.length) = true := decide_eq_true hA
      have e1i : (1 : Int) < (r.length : Int) := by omega
      have e2 : (((r.getD 0 0).toNat : Int) == 48) = false := by rw [beq_eq_false_iff_ne]; omega
      clear hB
      generalize (r.getD 0 0).toNat = x0 at *
      generalize (r.getD 1 0).toNat = y0 at *
      go_enter Tryd.func67, Tryd.ntmps67
      go_wp2_with fail
      refine (HP.out _).mono ?_
      rintro e w1 ⟨rfl, rfl⟩
      go_wp2_with fail
      go_ret2
      rw [HO.out]
      first | exact ⟨rfl, Below.refl _ _⟩ | exact ⟨⟨_, rfl⟩, Below.refl _ _⟩
    | q hA =>
      have e1 : decide ((1 : Int) < (r.length : Int)) = false := decide_eq_false (by omega)
      have e1n : decide (1 < r.length) = false := decide_eq_false hA
      generalize (r.getD 0 0).toNat = x0 at *
      generalize (r.getD 1 0).toNat = y0 at *
      go_enter Tryd.func67, Tryd.ntmps67
      go_wp2_with fail
      refine (HP.out _).mono ?_
      rintro e w1 ⟨rfl, rfl⟩
      go_wp2_with fail
      go_ret2
      rw [HO.out]
      first | exact ⟨rfl, Below.refl _ _⟩ | exact ⟨⟨_, rfl⟩, Below.refl _ _⟩
theorem Number_w (s : List UInt8) (w : World) (hl : s.length ≤ 90000) (h0 : s ≠ []) :
    Calls Tryd.prog 67 #[.string (bstr s)] w fun e w' => NumOut (Ex.numI s) e ∧ Below w.heap.size w w' := by
  by_cases hd : s.getD 0 0 = 45
  · cases s with
    | nil => exact absurd rfl h0
    | cons c r =>
      have hc : c = 45 := hd
      subst hc
      have h := Number_neg r w (by simp at hl; omega)
      have e : Ex.numI (45 :: r) = negOut (parseOf (baseOf r) (restOf r)) := by
        exact if_pos rfl
      rw [e]
      exact h
  · have h := Number_any s w (by omega) h0 (fun e => hd (UInt8.toNat_inj.1 e))
    refine h.mono ?_
    rintro e w' ⟨rfl, hb⟩
    refine ⟨?_, hb⟩
    unfold Ex.numI
    rw [if_neg hd, numOf_eq]
    cases parseOf (baseOf s) (restOf s) with
    | inl n =>
      simp only
      by_cases hn : n < 9223372036854775808
      · rw [if_pos hn, if_pos hn]; rfl
      · rw [if_neg hn, if_neg hn]; exact ⟨2, rfl⟩
    | inr e => exact ⟨(e : Nat), rfl⟩
end Go.Proofs.YtnmbakibiaedhaaDoor
