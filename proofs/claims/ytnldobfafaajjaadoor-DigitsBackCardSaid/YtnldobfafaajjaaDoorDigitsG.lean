/- The law DigitsBack. -/
import Derived.Test.YtnldobfafaajjaaDoorDigitsE
import Derived.Test.YtnldobfafaajjaaDoorShelfUp
namespace Go.Proofs.YtnldobfafaajjaaDoor
open Go.RowKit
set_option linter.unusedVariables false
set_option linter.unusedSimpArgs false
namespace Digits
/-- the digits, each written as g says, the greatest first -/
def dsw (g : Nat → UInt8) (b n j : Nat) : List UInt8 := ((List.range j).map fun i => g (dg b n i)).reverse
theorem dsw_length (g : Nat → UInt8) (b n j : Nat) : (dsw g b n j).length = j := by simp [dsw]
theorem dsw_succ (g : Nat → UInt8) (b n j : Nat) : dsw g b n (j + 1) = g (dg b n j) :: dsw g b n j := by simp [dsw, List.range_succ]
theorem dsw_mem (g : Nat → UInt8) (b n j : Nat) (x : UInt8) (h : x ∈ dsw g b n j) : ∃ i, i < j ∧ x = g (dg b n i) := by
  unfold dsw at h
  rw [List.mem_reverse, List.mem_map] at h
  obtain ⟨i, hi, rfl⟩ := h
  exact ⟨i, List.mem_range.1 hi, rfl⟩
theorem ds_dsw (b n j : Nat) : ds b n j = dsw (fun d => UInt8.ofNat (fig d)) b n j := rfl
theorem value_from (b : Nat) (l : List UInt8) : ∀ a, l.foldl (fun v c => v * b + (Keys.dig c.toNat).toNat) a = a * b ^ l.length + l.foldl (fun v c => v * b + (Keys.dig c.toNat).toNat) 0 := by
  induction l with
  | nil => intro a; simp
  | cons c l ih =>
    intro a
    rw [List.foldl_cons, List.foldl_cons, ih, ih (0 * b + _), List.length_cons, Nat.pow_succ, Nat.zero_mul, Nat.zero_add, Nat.add_mul, Nat.add_assoc]
    congr 1
    rw [Nat.mul_assoc, Nat.mul_comm b]
theorem value_cons (b : Nat) (c : UInt8) (l : List UInt8) : value b (c :: l) = (Keys.dig c.toNat).toNat * b ^ l.length + value b l := by
  have h := value_from b l (0 * b + (Keys.dig c.toNat).toNat)
  rw [Nat.zero_mul, Nat.zero_add] at h
  unfold value
  rw [List.foldl_cons, Nat.zero_mul, Nat.zero_add, h]
theorem value_dsw (g : Nat → UInt8) (hg : ∀ d, d < 16 → Keys.dig (g d).toNat = (d : Int)) (b n : Nat) (hb : 2 ≤ b) (hb2 : b ≤ 16) : ∀ j, value b (dsw g b n j) = n % b ^ j := by
  intro j
  induction j with
  | zero => simp [dsw, value, Nat.mod_one]
  | succ j ih =>
    rw [dsw_succ, value_cons, ih, dsw_length, mod_succ, hg _ (Nat.lt_of_lt_of_le (dg_lt b n j hb) hb2)]
    simp only [Int.toNat_natCast]
    rw [Nat.mul_comm (dg b n j), Nat.add_comm]
theorem dig_fig' : ∀ d : Fin 16, Keys.dig (UInt8.ofNat (fig d)).toNat = ((d : Nat) : Int) := by decide
theorem dig_up : ∀ d : Fin 16, Keys.dig (Lib.upperB (UInt8.ofNat (fig d))).toNat = ((d : Nat) : Int) := by decide
theorem fig_ascii : ∀ d : Fin 16, (UInt8.ofNat (fig d)).toNat < 128 := by decide
end Digits
open Digits in
theorem Parse_dsw (g : Nat → UInt8) (hg : ∀ d, d < 16 → Keys.dig (g d).toNat = (d : Int)) (b n j : Nat) (w : World) (hb : 2 ≤ b) (hb2 : b ≤ 16) (h1 : 1 ≤ j) (h2 : j ≤ 64) (hn : n < b ^ j) (hn2 : n < 18446744073709551616) :
    Calls Tryd.prog 27 #[.string (bstr (dsw g b n j)), .int .i64 (b : Nat)] w fun e w' => e = .returned (.tuple #[.int .u64 (n : Nat), .nilIface]) ∧ w = w' := by
  have hv : value b (dsw g b n j) = n := by rw [value_dsw g hg b n hb hb2, Nat.mod_eq_of_lt hn]
  have h := Parse_ok (dsw g b n j) b w hb hb2 (fun e => by have := congrArg List.length e; rw [dsw_length] at this; simp at this; omega) (by rw [dsw_length]; omega) (fun i hi => by
    obtain ⟨k, hk, e⟩ := dsw_mem g b n j ((dsw g b n j).getD i 0) (by rw [List.getD_eq_getElem?_getD, List.getElem?_eq_getElem hi]; exact List.getElem_mem hi)
    have hl := dg_lt b n k hb
    rw [e, hg _ (by omega)]
    omega) (by rw [hv]; exact hn2)
  rw [hv] at h
  exact h
open Digits in
set_option maxRecDepth 100000 in
set_option maxHeartbeats 2000000 in
theorem DigitsBack_walk (n : Nat) (base width : Int) (hn : n < 18446744073709551616) (h1 : -9223372036854775808 ≤ base) (h2 : base ≤ 9223372036854775807) (h3 : -9223372036854775808 ≤ width) (h4 : width ≤ 9223372036854775807) (w : World) (hg : ErrType w) :
    Calls Tryd.prog 8 #[.int .u64 (n : Nat), .int .i64 base, .int .i64 width] w fun e w' => e = .returned (.bool true) ∧ Below w.heap.size w w' := by
  have hp := fun w => pick_at base 15 15 w rfl (by decide) (by decide)
  have hlt := pickN_lt base 15 (by decide)
  generalize pickN base 15 = p at *
  have hq := fun w => pick_at width 65 65 w rfl (by decide) (by decide)
  have hlq := pickN_lt width 65 (by decide)
  generalize pickN width 65 = q at *
  have hb : 2 + (p : Int) = ((2 + p : Nat) : Int) := by simp
  obtain ⟨b, hbe⟩ : ∃ b, b = 2 + p := ⟨_, rfl⟩
  rw [← hbe] at hb
  have hb2 : 2 ≤ b := by omega
  have hb16 : b ≤ 16 := by omega
  have hp2 : 2 + (p : Int) ≤ 16 := by omega
  have hp0 : 0 ≤ 2 + (p : Int) := by omega
  have hwp : IntKind.i64.wrap (2 + (p : Int)) = 2 + (p : Int) := by rw [IntKind.wrap_i64]; omega
  clear hbe
  have HP := Lib.hid hp; have HQ := Lib.hid hq; clear hp hq
  have HA := Lib.hid (fun w => Print_any n b q w hn hb2 hb16 (by omega))
  have HF := Lib.hid (figured_any w hg)
  have HB := Lib.hid hb; clear hb
  go_enter Tryd.func8, Tryd.ntmps8
  go_wp2_with fail
  refine HF.out.mono ?_
  rintro e w1 ⟨rfl, hb1⟩
  have HB1 := Lib.hid hb1
  clear hb1
  go_wp2_with fail
  refine (HP.out _).mono ?_
  rintro e w2 ⟨rfl, rfl⟩
  go_wp2_with fail
  refine (HQ.out _).mono ?_
  rintro e w2 ⟨rfl, rfl⟩
  go_wp2_with fail
  rw [HB.out]
  refine (HA.out _).mono ?_
  rintro e w2 ⟨⟨J, hJ, rfl⟩, hb2'⟩
  have hbx := HB1.out.trans (hb2'.mono HB1.out.size)
  have j1 : max q 1 ≤ J := hJ.1
  have j2 : n < b ^ J := hJ.2.1
  have j3 : J ≤ 64 := Wide.le64 hb2 (by omega) (by omega) hJ
  have hpa := fun w => Parse_dsw (fun d => UInt8.ofNat (fig d)) (fun d hd => dig_fig' ⟨d, hd⟩) b n J w hb2 hb16 (by omega) j3 j2 hn
  have hpu := fun w => Parse_dsw (fun d => Lib.upperB (UInt8.ofNat (fig d))) (fun d hd => dig_up ⟨d, hd⟩) b n J w hb2 hb16 (by omega) j3 j2 hn
  have hto := fun w => Tryd.strings_ToUpper_ascii (bstr (ds b n J)) w (by rw [bstr_size, ds_length]; omega) (fun i x hx => by
    have hm : x ∈ ds b n J := by
      rw [bstr_data] at hx
      exact List.mem_of_getElem? hx
    rw [ds_dsw] at hm
    obtain ⟨k, hk, rfl⟩ := dsw_mem _ _ _ _ _ hm
    have hl := dg_lt b n k hb2
    exact fig_ascii ⟨dg b n k, by omega⟩)
  have eup : (⟨(Lib.toUpperA (bstr (ds b n J)).data.toList).toArray⟩ : ByteArray) = bstr (dsw (fun d => Lib.upperB (UInt8.ofNat (fig d))) b n J) := by
    rw [bstr_data]
    unfold bstr Lib.toUpperA ds dsw
    rw [← List.map_reverse, ← List.map_reverse, List.map_map]
    rfl
  rw [eup] at hto
  rw [← ds_dsw] at hpa
  have hlen := ds_length b n J
  generalize dsw (fun d => Lib.upperB (UInt8.ofNat (fig d))) b n J = U at *
  generalize ds b n J = X at *
  have hge : q ≤ X.length := by omega
  have HPA := Lib.hid hpa; have HPU := Lib.hid hpu; have HTO := Lib.hid hto; have HBX := Lib.hid hbx
  clear hpa hpu hto hbx hb2' eup hlen hJ j1 j2 j3 HA HP HQ
  have hnn : ((n : Int) == (n : Int)) = true := by simp
  go_wp2_with fail
  refine (HPA.out _).mono ?_
  rintro e w3 ⟨rfl, rfl⟩
  go_wp2_with fail
  refine (HTO.out _).mono ?_
  rintro e w3 ⟨rfl, hb3⟩
  have hby := HBX.out.trans (hb3.mono HBX.out.size)
  clear hb3
  go_wp2_with fail
  refine (HPU.out _).mono ?_
  rintro e w4 ⟨rfl, rfl⟩
  go_wp2_with fail
  go_ret
  exact ⟨rfl, hby⟩
end Go.Proofs.YtnldobfafaajjaaDoor
