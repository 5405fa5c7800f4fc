/- The law XxdBack, walked. -/
import Derived.Test.YtenhblpegobbjaaDoorXxdB
import Derived.Test.YtenhblpegobbjaaDoorPick
namespace Go.Proofs.YtenhblpegobbjaaDoor
open Go.RowKit
set_option linter.unusedVariables false
set_option linter.unusedSimpArgs false
open Xx
theorem Load_of (l : List UInt8) (s : List UInt8) (w : World) (h : ∃ L T, l = joinNl L ∧ Lines L T ∧ told T = s) :
    Calls Tryd.prog 8 #[.string (bstr l)] w fun e w' => e = .returned (.tuple #[.string (bstr s), .nilIface]) ∧ Below w.heap.size w w' := by
  obtain ⟨L, T, rfl, h1, rfl⟩ := h
  exact Load_any L T h1 w
def dmpA : List UInt8 := [48, 48, 48, 48, 48, 48, 48, 48, 58, 32, 52, 56, 54, 57, 32, 48, 97, 32, 32, 32, 32, 72, 105, 46, 10]
def dmpB : List UInt8 := [48, 48, 48, 48, 48, 48, 48, 49, 58, 32, 52, 56, 54, 57, 32, 32, 72, 105]
theorem dmpA_is : dump [72, 105, 10] 4 2 (rows [72, 105, 10] 4) = dmpA := by decide +kernel
theorem dmpB_ln : Ln dmpB (some 1) [72, 105] := by
  have h : Toks [32, 52, 56, 54, 57, 32, 32, 72, 105] [72, 105] := by
    refine Toks.blank (by decide) ?_
    have e1 : (72 : UInt8) = UInt8.ofNat (16 * 4 + 8) := by decide
    have e2 : (105 : UInt8) = UInt8.ofNat (16 * 6 + 9) := by decide
    rw [e1, e2]
    exact .byte (by decide) (by decide) (by decide) (.byte (by decide) (by decide) (by decide) (.stop _))
  have := Ln.placed (r := [32, 52, 56, 54, 57, 32, 32, 72, 105]) 1 (by decide) h (by decide)
  have e : Digits.ds 16 1 8 ++ 58 :: [32, 52, 56, 54, 57, 32, 32, 72, 105] = dmpB := by decide +kernel
  rw [e] at this
  exact this
theorem dmpB_back : ∃ L T, dmpB = joinNl L ∧ Lines L T ∧ told T = [0, 72, 105] := by
  refine ⟨[dmpB], [(some 1, [72, 105])], rfl, ⟨rfl, by simp, ?_, ?_, by decide, by decide, ?_, ?_⟩, by decide +kernel⟩
  · intro x hx
    rw [List.mem_singleton] at hx
    subst hx
    decide
  · intro x hx
    rw [List.mem_singleton] at hx
    subst hx
    decide
  · intro k hk
    obtain rfl : k = 0 := by simpa using hk
    exact dmpB_ln
  · intro k hk
    obtain rfl : k = 0 := by simpa using hk
    exact ⟨by decide, by decide⟩
set_option maxRecDepth 100000 in
theorem dumped_any (w : World) : Calls Tryd.prog 5 #[] w fun e w' => e = .returned (.bool true) ∧ Below w.heap.size w w' := by
  have h1 := fun w => Dump_any [72, 105, 10] 4 2 w (by decide) (by decide) (by decide) (by decide) (by decide)
  rw [dmpA_is] at h1
  have h2 := fun w => Load_of dmpB [0, 72, 105] w dmpB_back
  have H1 := Lib.hid h1; have H2 := Lib.hid h2
  clear h1 h2
  go_enter Tryd.func5, Tryd.ntmps5
  go_wp2_with fail
  refine (H1.out _).mono ?_
  rintro e w1 ⟨rfl, hb1⟩
  go_wp2_with fail
  refine (H2.out _).mono ?_
  rintro e w2 ⟨rfl, hb2⟩
  have HB := Lib.hid (hb1.trans (hb2.mono hb1.size))
  clear hb1 hb2
  go_wp2_with fail
  go_ret
  exact ⟨rfl, HB.out⟩
set_option maxRecDepth 100000 in
set_option maxHeartbeats 1000000 in
theorem XxdBack_in (s : List UInt8) (cols group : Int) (w : World) :
    Calls Tryd.prog 3 #[.string (bstr s), .int .i64 cols, .int .i64 group] w fun e w' => e = .returned (.bool true) ∧ Below w.heap.size w w' := by
  have HD := Lib.hid (fun w => dumped_any w)
  by_cases hs : 600 < s.length
  · have d1 : decide ((600 : Int) < (s.length : Int)) = true := decide_eq_true (by omega)
    have d1n : decide (600 < s.length) = true := decide_eq_true (by omega)
    clear hs
    go_enter Tryd.func3, Tryd.ntmps3
    go_wp2_with fail
    refine (HD.out _).mono ?_
    rintro e w1 ⟨rfl, hb1⟩
    go_wp2_with fail
    go_ret
    exact ⟨rfl, hb1⟩
  have d1 : decide ((600 : Int) < (s.length : Int)) = false := decide_eq_false (by omega)
  have d1n : decide (600 < s.length) = false := decide_eq_false (by omega)
  have hp1 := fun w1 => pick_at cols 256 256 w1 rfl (by decide) (by decide)
  have hl1 := pickN_lt cols 256 (by decide)
  obtain ⟨c, hc⟩ : ∃ c, c = pickN cols 256 + 1 := ⟨_, rfl⟩
  have hp2 := fun w1 => pick_at group (c : Int) c w1 rfl (by omega) (by omega)
  have hl2 := pickN_lt group c (by omega)
  obtain ⟨g, hg⟩ : ∃ g, g = pickN group c + 1 := ⟨_, rfl⟩
  have e1 : (1 : Int) + (pickN cols 256 : Int) = (c : Int) := by rw [hc]; omega
  have e2 : (1 : Int) + (pickN group c : Int) = (g : Int) := by rw [hg]; omega
  have hdu := fun w => Dump_any s c g w (by omega) (by omega) (by omega) (by omega) (by omega)
  have hlo := fun w => Load_of _ s w (dump_back s c g (by omega) (by omega) (by omega) (by omega) (by omega))
  have hpl := fun w => Plain_any s w (by omega)
  have hlp := fun w => Load_of _ s w (plain_back s (by omega))
  generalize dump s c g (rows s c) = DU at *
  generalize plainTo s (rows s 30) = PL at *
  generalize pickN cols 256 = pc at *
  generalize pickN group c = pg at *
  have HP1 := Lib.hid hp1; have HP2 := Lib.hid hp2; have HDU := Lib.hid hdu; have HLO := Lib.hid hlo; have HPL := Lib.hid hpl; have HLP := Lib.hid hlp
  have hc4 : c ≤ 256 := by omega
  have hg4 : g ≤ 256 := by omega
  clear hp1 hp2 hdu hlo hpl hlp hc hg hs
  go_enter Tryd.func3, Tryd.ntmps3
  go_wp2_with fail
  refine (HD.out _).mono ?_
  rintro e w1 ⟨rfl, hb1⟩
  have HB1 := Lib.hid hb1; clear hb1
  go_wp2_with fail
  refine (HP1.out _).mono ?_
  rintro e w2 ⟨rfl, rfl⟩
  go_wp2_with fail
  refine (HP2.out _).mono ?_
  rintro e w2 ⟨rfl, rfl⟩
  go_wp2_with fail
  refine (HDU.out _).mono ?_
  rintro e w3 ⟨rfl, hb3⟩
  have HB3 := Lib.hid (HB1.out.trans (hb3.mono HB1.out.size)); clear hb3
  go_wp2_with fail
  refine (HLO.out _).mono ?_
  rintro e w4 ⟨rfl, hb4⟩
  have HB4 := Lib.hid (HB3.out.trans (hb4.mono HB3.out.size)); clear hb4
  go_wp2_with fail
  refine (HPL.out _).mono ?_
  rintro e w5 ⟨rfl, hb5⟩
  have HB5 := Lib.hid (HB4.out.trans (hb5.mono HB4.out.size)); clear hb5
  go_wp2_with fail
  refine (HLP.out _).mono ?_
  rintro e w6 ⟨rfl, hb6⟩
  have HB6 := Lib.hid (HB5.out.trans (hb6.mono HB5.out.size)); clear hb6
  have hee : (s == s) = true := by simp
  go_wp2_with fail
  go_ret
  exact ⟨rfl, HB6.out⟩
theorem XxdBack_walk (s : ByteArray) (cols group : Int) (hs : s.size ≤ 140737488351232) (h1 : -9223372036854775808 ≤ cols) (h2 : cols ≤ 9223372036854775807) (h3 : -9223372036854775808 ≤ group) (h4 : group ≤ 9223372036854775807) (W : World) (hT : True) :
    Calls Tryd.prog 3 #[.string s, .int .i64 cols, .int .i64 group] W fun e w' => e = .returned (.bool true) ∧ Below W.heap.size W w' := by
  rw [eq_bstr s]
  exact XxdBack_in s.data.toList cols group W
end Go.Proofs.YtenhblpegobbjaaDoor
