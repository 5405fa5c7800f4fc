/- The law DigitsPairs. -/
import Derived.Test.YtnldobfafaajjaaDoorDigitsD
import Derived.Test.YtnldobfafaajjaaDoorErrAt
namespace Go.Proofs.YtnldobfafaajjaaDoor
open Go.RowKit
set_option linter.unusedVariables false
set_option linter.unusedSimpArgs false
namespace Digits
theorem dig_fig (d : Nat) (h : d < 16) : Keys.dig (UInt8.ofNat (fig d)).toNat = (d : Int) := by
  have key : ∀ d : Fin 16, Keys.dig (UInt8.ofNat (fig (d : Nat))).toNat = ((d : Nat) : Int) := by decide +kernel
  exact key ⟨d, h⟩
theorem fig_blank (d : Nat) (h : d < 16) : UInt8.ofNat (fig d) ≠ 32 := by
  have key : ∀ d : Fin 16, UInt8.ofNat (fig (d : Nat)) ≠ 32 := by decide +kernel
  exact key ⟨d, h⟩
theorem reads_hex (l : List UInt8) : Reads (hex l) l := by
  induction l with
  | nil => exact .nil
  | cons x l ih =>
    have hx : x.toNat < 256 := UInt8.toNat_lt _
    have e : UInt8.ofNat (16 * (x.toNat / 16) + x.toNat % 16) = x := by
      rw [show 16 * (x.toNat / 16) + x.toNat % 16 = x.toNat by omega, UInt8.ofNat_toNat]
    have := Reads.byte (fig_blank (x.toNat / 16) (by omega)) (dig_fig (x.toNat / 16) (by omega)) (dig_fig (x.toNat % 16) (by omega)) ih
    rw [e] at this
    exact this
end Digits
set_option maxRecDepth 100000 in
set_option maxHeartbeats 1000000 in
theorem DigitsPairs_walk (s u : ByteArray) (hs : s.size ≤ 140737488351232) (hu : u.size ≤ 140737488351232) (w : World) (hg : ErrType w) :
    Calls Tryd.prog 7 #[.string s, .string u] w fun e w' => e = .returned (.bool true) ∧ Below w.heap.size w w' := by
  obtain ⟨l, hl⟩ : ∃ l : List UInt8, s = bstr l := ⟨_, eq_bstr s⟩
  obtain ⟨m, hm⟩ : ∃ m : List UInt8, u = bstr m := ⟨_, eq_bstr u⟩
  subst hl hm
  rw [bstr_size] at hs hu
  have HF := Lib.hid (figured_any w hg)
  have HG := Lib.hid hg; clear hg
  by_cases hbig : 400 < l.length + m.length
  · have hd : decide ((400 : Int) < (l.length : Int) + (m.length : Int)) = true := by rw [decide_eq_true_eq]; omega
    have hw0 : IntKind.i64.wrap ((l.length : Int) + (m.length : Int)) = (l.length : Int) + (m.length : Int) := IntWalk.i64_in _ ⟨by omega, by omega⟩
    go_enter Tryd.func7, Tryd.ntmps7
    go_wp2_with fail
    refine HF.out.mono ?_
    rintro e w1 ⟨rfl, hb1⟩
    go_wp2_with fail
    go_ret
    exact ⟨rfl, hb1⟩
  · have hd : decide ((400 : Int) < (l.length : Int) + (m.length : Int)) = false := by rw [decide_eq_false_iff_not]; omega
    have hw0 : IntKind.i64.wrap ((l.length : Int) + (m.length : Int)) = (l.length : Int) + (m.length : Int) := IntWalk.i64_in _ ⟨by omega, by omega⟩
    have el : (⟨#[32]⟩ : ByteArray) = bstr [32] := rfl
    have ef : (⟨#[102]⟩ : ByteArray) = bstr [102] := rfl
    have HL := Lib.hid (fun w => Hex_any l w (by omega))
    have HM := Lib.hid (fun w => Hex_any m w (by omega))
    have HLM := Lib.hid (fun w => Hex_any (l ++ m) w (by rw [List.length_append]; omega))
    rw [Digits.hex_append] at HLM
    have hlx := Digits.hex_length l
    have hmx := Digits.hex_length m
    have HU := Lib.hid (fun w => Unhex_any (Digits.hex l ++ [32] ++ Digits.hex m) [] (l ++ m) w (by rw [List.append_assoc]; exact (Digits.reads_hex l).append (.blank (Digits.reads_hex m))) (.inl rfl) (by simp only [List.length_append, List.length_cons, List.length_nil]; omega))
    rw [List.append_nil, show Digits.hex l ++ [32] ++ Digits.hex m = Digits.hex l ++ 32 :: Digits.hex m by simp] at HU
    have HV := Lib.hid (fun w => Unhex_any (Digits.hex l) [102] l w (Digits.reads_hex l) (.inr ⟨102, 15, rfl, by decide, by decide⟩) (by simp only [List.length_append, List.length_cons, List.length_nil]; omega))
    generalize Digits.hex l = X at *
    generalize Digits.hex m = Y at *
    have hX : X.length ≤ 1000 := by omega
    have hY : Y.length ≤ 1000 := by omega
    clear hlx hmx
    go_enter Tryd.func7, Tryd.ntmps7
    go_wp2_with fail
    refine HF.out.mono ?_
    rintro e w1 ⟨rfl, hb1⟩
    go_wp2_with fail
    refine (HL.out _).mono ?_
    rintro e w2 ⟨rfl, hb2⟩
    replace hb1 := hb1.trans (hb2.mono hb1.size); clear hb2
    go_wp2_with fail
    refine (HM.out _).mono ?_
    rintro e w3 ⟨rfl, hb2⟩
    replace hb1 := hb1.trans (hb2.mono hb1.size); clear hb2
    go_wp2_with fail
    refine (HU.out _).mono ?_
    rintro e w4 ⟨ho, hb2⟩
    replace hb1 := hb1.trans (hb2.mono hb1.size); clear hb2
    rcases ho with ⟨_, rfl⟩ | ⟨h, _⟩
    · go_wp2_with fail
      refine (HL.out _).mono ?_
      rintro e w5 ⟨rfl, hb2⟩
      replace hb1 := hb1.trans (hb2.mono hb1.size); clear hb2
      go_wp2_with fail
      refine (HV.out _).mono ?_
      rintro e w6 ⟨ho, hb2⟩
      replace hb1 := hb1.trans (hb2.mono hb1.size)
      rcases ho with ⟨h, _⟩ | ⟨_, g, at_, rfl, hge, hrow⟩
      · exact absurd h (by simp)
      · clear hb2
        go_wp2_with fail
        refine (HLM.out _).mono ?_
        rintro e w7 ⟨rfl, hb2⟩
        replace hb1 := hb1.trans (hb2.mono hb1.size)
        replace hrow := hrow.below hb2 hrow.lt
        clear hb2
        go_wp2_with fail
        refine (HL.out _).mono ?_
        rintro e w8 ⟨rfl, hb2⟩
        replace hb1 := hb1.trans (hb2.mono hb1.size)
        replace hrow := hrow.below hb2 hrow.lt
        clear hb2
        go_wp2_with fail
        refine (HM.out _).mono ?_
        rintro e w9 ⟨rfl, hb2⟩
        replace hb1 := hb1.trans (hb2.mono hb1.size)
        replace hrow := hrow.below hb2 hrow.lt
        clear hb2
        go_wp2_with fail
        refine (Tell_at g 3 at_ _ (HG.out.below hb1 HG.out.lt) hrow).mono ?_
        rintro e w10 ⟨rfl, hb2⟩
        replace hb1 := hb1.trans (hb2.mono hb1.size)
        go_wp2_with fail
        go_ret
        exact ⟨rfl, hb1⟩
    · exact absurd rfl h
end Go.Proofs.YtnldobfafaajjaaDoor
