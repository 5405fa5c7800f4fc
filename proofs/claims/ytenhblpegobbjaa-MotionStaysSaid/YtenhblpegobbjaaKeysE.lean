/- Contracts of package keys: arg at two keys, both there. -/
import Derived.Test.YtenhblpegobbjaaChecked
import Derived.Test.YtenhblpegobbjaaOwn
import Derived.Test.YtenhblpegobbjaaKeysC
namespace Go.Proofs.Ytenhblpegobbjaa
open Go.RowKit
set_option linter.unusedVariables false
set_option linter.unusedSimpArgs false
set_option maxRecDepth 100000 in
set_option maxHeartbeats 2000000 in
theorem arg_two_two (g : Nat) (c d d2 : UInt8) (l : List UInt8) (bad : Bool) (w : World) (h : Rd w g (d :: d2 :: l) bad) (hk : c.toNat = 102 ∨ c.toNat = 114) :
    Calls Try.prog 60 #[.pointer (some ⟨g, 0, none⟩), .int .u8 ((c.toNat : Nat) : Int)] w fun e w' => ∃ s1 : ByteArray, s1.data.toList = [d, d2] ∧ e = .returned (.tuple #[.string s1, .bool true]) ∧ Rd w' g l (bad || (decide (Keys.dig d.toNat < 0) || decide (Keys.dig d2.toNat < 0))) ∧ w.grownBy w' (some g) := by
  obtain ⟨s, hs, hr⟩ := h
  have hc := hr.cell0 0 (by simp)
  have hf := hr.frozen0 0 (by simp)
  have hf1 := hr.frozen0 1 (by simp)
  have hc1 := hr.cell0 1 (by simp)
  simp only [List.getElem_cons_zero] at hc
  simp only [List.getElem_cons_zero, List.getElem_cons_succ] at hc1
  have HR := Lib.hid hr; clear hr
  have hsz : 2 ≤ s.size := by have := data_length s; rw [hs] at this; simp at this; omega
  have hszI : (0 : Int) ≤ (s.size : Int) := by omega
  have hszI2 : (2 : Int) ≤ (s.size : Int) := by omega
  have hmin : min (2 : Int) (s.size : Int) = 2 := by omega
  have hx : (s.extract 2 s.size).data.toList = l := by rw [extract_rest, hs]; rfl
  obtain ⟨s1, hs1⟩ : ∃ s1, s.extract 0 2 = s1 := ⟨_, rfl⟩
  have hs1l : s1.data.toList = [d, d2] := by rw [← hs1, extract_first, hs]; rfl
  have hz1 : s1.size = 2 := by have := data_length s1; rw [hs1l] at this; simpa using this.symm
  have hz1p : 0 < s1.size := by omega
  have h0 : s1[0] = d := by rw [byteAt s1 0 hz1p, hs1l]; rfl
  have hz2p : 1 < s1.size := by omega
  have h1 : s1[1] = d2 := by rw [byteAt s1 1 hz2p, hs1l]; rfl
  have HX := Lib.hid hx; clear hx
  have HS1 := Lib.hid hs1l; clear hs1l hs
  have hd : d.toNat < 256 := UInt8.toNat_lt _
  obtain ⟨D, hD⟩ : ∃ D, D = Keys.dig d.toNat := ⟨_, rfl⟩
  rw [← hD]
  have HD := Lib.hid hD; clear hD
  have hd2 : d2.toNat < 256 := UInt8.toNat_lt _
  obtain ⟨D2, hD2⟩ : ∃ D, D = Keys.dig d2.toNat := ⟨_, rfl⟩
  rw [← hD2]
  have HD2 := Lib.hid hD2; clear hD2
  have hm : [109, 113, 64].contains c = false := by
    rcases hk with h | h
    · rw [show c = 102 from UInt8.toNat_inj.mp h]; rfl
    · rw [show c = 114 from UInt8.toNat_inj.mp h]; rfl
  have e39 : ((c.toNat : Int) == 39) = false := by rw [beq_eq_false_iff_ne]; omega
  by_cases h102 : c.toNat = 102
  case' pos => have e102 : ((c.toNat : Int) == 102) = true := by rw [beq_iff_eq]; omega
  case' neg =>
    have e102 : ((c.toNat : Int) == 102) = false := by rw [beq_eq_false_iff_ne]; omega
    have e114 : ((c.toNat : Int) == 114) = true := by rw [beq_iff_eq]; omega
  all_goals
    clear h102 hk
    go_enter Try.func60, Try.ntmps60
    go_wp2_with fail
    refine (has_any _ c w).mono ?_
    rintro e w1 ⟨rfl, rfl⟩
    rw [show (ByteArray.mk #[109, 113, 64]).data.toList.contains c = false from hm]
    go_wp2_with fail
    go_quiet (fail)
    go_wp2_with fail
    have hcq : (w.drewN nq).cell? ⟨g, 0, none⟩ = some (.string s) := hc
    have hfq : (w.drewN nq).frozen? ⟨g, 0, none⟩ = false := hf
    have hfq1 : (w.drewN nq).frozen? ⟨g, 1, none⟩ = false := hf1
    refine wp_loop_rounds 3 ?_
    rw [rounds_succ]
    go_wp2_with fail
    refine (Digit_any d.toNat _ hd).mono ?_
    rintro e w1 ⟨rfl, rfl⟩
    rw [← HD.out]
    go_wp2_with fail
  all_goals
    rw [rounds_succ]
    go_wp2_with fail
    refine (Digit_any d2.toNat _ hd2).mono ?_
    rintro e w1 ⟨rfl, rfl⟩
    rw [← HD2.out]
    go_wp2_with fail
  all_goals
    rw [rounds_succ]
    go_wp2_with fail
    go_ret2
    have hr : RowAt (w.drewN nq) g 0 95 [.string s, .bool bad] := HR.out
    refine ⟨s1, HS1.out, rfl, ⟨_, HX.out, ?_⟩, ?_⟩
    · first
        | (have e1 : (decide (D < 0) || decide (D2 < 0)) = false := by
             rw [Bool.or_eq_false_iff, decide_eq_false_iff_not, decide_eq_false_iff_not]; omega
           rw [e1, Bool.or_false]
           exact hr.set0 0 (by simp) _)
        | (have e1 : (decide (D < 0) || decide (D2 < 0)) = true := by
             rw [Bool.or_eq_true_iff, decide_eq_true_iff, decide_eq_true_iff]; omega
           rw [e1, Bool.or_true]
           first
             | exact (hr.set0 1 (by simp) (.bool true)).set0 0 (by simp) _
             | exact ((hr.set0 1 (by simp) (.bool true)).set0 1 (by simp) (.bool true)).set0 0 (by simp) _)
    · first
        | exact grown_set (g := g) (p := ⟨g, 0, none⟩) (grown_drewN (grown_refl w _) _) rfl _
        | exact grown_set (g := g) (p := ⟨g, 0, none⟩) (grown_set (g := g) (p := ⟨g, 1, none⟩) (grown_drewN (grown_refl w _) _) rfl _) rfl _
        | exact grown_set (g := g) (p := ⟨g, 0, none⟩) (grown_set (g := g) (p := ⟨g, 1, none⟩) (grown_set (g := g) (p := ⟨g, 1, none⟩) (grown_drewN (grown_refl w _) _) rfl _) rfl _) rfl _
end Go.Proofs.Ytenhblpegobbjaa
