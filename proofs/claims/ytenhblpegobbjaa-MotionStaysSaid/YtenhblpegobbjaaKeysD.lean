/- Contracts of package keys: arg at two keys. -/
import Derived.Test.YtenhblpegobbjaaChecked
import Derived.Test.YtenhblpegobbjaaOwn
import Derived.Test.YtenhblpegobbjaaKeysC
namespace Go.Proofs.Ytenhblpegobbjaa
open Go.RowKit
set_option linter.unusedVariables false
set_option linter.unusedSimpArgs false
set_option maxRecDepth 100000 in
theorem arg_two_nil (g : Nat) (c : UInt8) (bad : Bool) (w : World) (h : Rd w g [] bad) (hk : c.toNat = 102 ∨ c.toNat = 114) :
    Calls Try.prog 60 #[.pointer (some ⟨g, 0, none⟩), .int .u8 ((c.toNat : Nat) : Int)] w fun e w' => e = .returned (.tuple #[.string ByteArray.empty, .bool false]) ∧ Rd w' g [] bad ∧ w.grownBy w' (some g) := by
  obtain ⟨s, hs, hr⟩ := h
  obtain rfl : s = ByteArray.empty := by
    apply ByteArray.ext; apply Array.ext'; exact hs
  have hc := hr.cell0 0 (by simp)
  have hf := hr.frozen0 0 (by simp)
  simp only [List.getElem_cons_zero] at hc
  have HR := Lib.hid hr; clear hr hs
  have hm : [109, 113, 64].contains c = false := by
    rcases hk with h | h
    · rw [show c = 102 from UInt8.toNat_inj.mp h]; rfl
    · rw [show c = 114 from UInt8.toNat_inj.mp h]; rfl
  have e39 : ((c.toNat : Int) == 39) = false := by rw [beq_eq_false_iff_ne]; omega
  by_cases h102 : c.toNat = 102
  case' pos => have e102 : ((c.toNat : Int) == 102) = true := by rw [beq_iff_eq]; omega
  case' neg =>
    have e102 : ((c.toNat : Int) == 102) = false := by rw [beq_eq_false_iff_ne]; omega
    have e114 : ((c.toNat : Int) == 114) = true := by rw [beq_iff_eq]; omega
  all_goals
    clear h102 hk
    go_enter Try.func60, Try.ntmps60
    go_wp2_with fail
    refine (has_any _ c w).mono ?_
    rintro e w1 ⟨rfl, rfl⟩
    rw [show (ByteArray.mk #[109, 113, 64]).data.toList.contains c = false from hm]
    go_wp2_with fail
    go_quiet (fail)
    go_wp2_with fail
    have hcq : (w.drewN nq).cell? ⟨g, 0, none⟩ = some (.string ByteArray.empty) := hc
    have hfq : (w.drewN nq).frozen? ⟨g, 0, none⟩ = false := hf
    refine wp_loop_rounds 1 ?_
    rw [rounds_succ]
    go_wp2_with fail
    go_ret2
    have hr : RowAt (w.drewN nq) g 0 95 [.string ByteArray.empty, .bool bad] := HR.out
    exact ⟨rfl, ⟨ByteArray.empty, rfl, hr.set0 0 (by simp) (.string ByteArray.empty)⟩, grown_set (grown_drewN (grown_refl w _) _) rfl _⟩
set_option maxRecDepth 100000 in
set_option maxHeartbeats 2000000 in
theorem arg_two_one (g : Nat) (c d : UInt8) (bad : Bool) (w : World) (h : Rd w g ([d]) bad) (hk : c.toNat = 102 ∨ c.toNat = 114) :
    Calls Try.prog 60 #[.pointer (some ⟨g, 0, none⟩), .int .u8 ((c.toNat : Nat) : Int)] w fun e w' => ∃ s1 : ByteArray, s1.data.toList = [d] ∧ e = .returned (.tuple #[.string s1, .bool false]) ∧ Rd w' g [] (bad || decide (Keys.dig d.toNat < 0)) ∧ w.grownBy w' (some g) := by
  obtain ⟨s, hs, hr⟩ := h
  have hc := hr.cell0 0 (by simp)
  have hf := hr.frozen0 0 (by simp)
  have hf1 := hr.frozen0 1 (by simp)
  have hc1 := hr.cell0 1 (by simp)
  simp only [List.getElem_cons_zero] at hc
  simp only [List.getElem_cons_zero, List.getElem_cons_succ] at hc1
  have HR := Lib.hid hr; clear hr
  have hsz : s.size = 1 := by have := data_length s; rw [hs] at this; simpa using this.symm
  have hszI : (s.size : Int) = 1 := by omega
  have hmin : min (2 : Int) 1 = 1 := by omega
  have hx : (s.extract 1 s.size).data.toList = [] := by rw [extract_rest, hs]; rfl
  obtain ⟨s1, hs1⟩ : ∃ s1, s.extract 0 1 = s1 := ⟨_, rfl⟩
  have hs1l : s1.data.toList = [d] := by rw [← hs1, extract_first, hs]; rfl
  have hz1 : s1.size = 1 := by have := data_length s1; rw [hs1l] at this; simpa using this.symm
  have hz1p : 0 < s1.size := by omega
  have h0 : s1[0] = d := by rw [byteAt s1 0 hz1p, hs1l]; rfl
  have HX := Lib.hid hx; clear hx
  have HS1 := Lib.hid hs1l; clear hs1l hs
  have hd : d.toNat < 256 := UInt8.toNat_lt _
  obtain ⟨D, hD⟩ : ∃ D, D = Keys.dig d.toNat := ⟨_, rfl⟩
  rw [← hD]
  have HD := Lib.hid hD; clear hD
  have hm : [109, 113, 64].contains c = false := by
    rcases hk with h | h
    · rw [show c = 102 from UInt8.toNat_inj.mp h]; rfl
    · rw [show c = 114 from UInt8.toNat_inj.mp h]; rfl
  have e39 : ((c.toNat : Int) == 39) = false := by rw [beq_eq_false_iff_ne]; omega
  by_cases h102 : c.toNat = 102
  case' pos => have e102 : ((c.toNat : Int) == 102) = true := by rw [beq_iff_eq]; omega
  case' neg =>
    have e102 : ((c.toNat : Int) == 102) = false := by rw [beq_eq_false_iff_ne]; omega
    have e114 : ((c.toNat : Int) == 114) = true := by rw [beq_iff_eq]; omega
  all_goals
    clear h102 hk
    go_enter Try.func60, Try.ntmps60
    go_wp2_with fail
    refine (has_any _ c w).mono ?_
    rintro e w1 ⟨rfl, rfl⟩
    rw [show (ByteArray.mk #[109, 113, 64]).data.toList.contains c = false from hm]
    go_wp2_with fail
    go_quiet (fail)
    go_wp2_with fail
    have hcq : (w.drewN nq).cell? ⟨g, 0, none⟩ = some (.string s) := hc
    have hfq : (w.drewN nq).frozen? ⟨g, 0, none⟩ = false := hf
    have hfq1 : (w.drewN nq).frozen? ⟨g, 1, none⟩ = false := hf1
    refine wp_loop_rounds 2 ?_
    rw [rounds_succ]
    go_wp2_with fail
    refine (Digit_any d.toNat _ hd).mono ?_
    rintro e w1 ⟨rfl, rfl⟩
    rw [← HD.out]
    go_wp2_with fail
  all_goals
    rw [rounds_succ]
    go_wp2_with fail
    go_ret2
    have hr : RowAt (w.drewN nq) g 0 95 [.string s, .bool bad] := HR.out
    refine ⟨s1, HS1.out, rfl, ⟨ByteArray.empty, rfl, ?_⟩, ?_⟩
    · first
        | (have e1 : decide (D < 0) = false := by
             rw [decide_eq_false_iff_not]; omega
           rw [e1, Bool.or_false]
           exact hr.set0 0 (by simp) _)
        | (have e1 : decide (D < 0) = true := by
             rw [decide_eq_true_iff]; omega
           rw [e1, Bool.or_true]
           first
             | exact (hr.set0 1 (by simp) (.bool true)).set0 0 (by simp) _
             | exact ((hr.set0 1 (by simp) (.bool true)).set0 1 (by simp) (.bool true)).set0 0 (by simp) _)
    · first
        | exact grown_set (g := g) (p := ⟨g, 0, none⟩) (grown_drewN (grown_refl w _) _) rfl _
        | exact grown_set (g := g) (p := ⟨g, 0, none⟩) (grown_set (g := g) (p := ⟨g, 1, none⟩) (grown_drewN (grown_refl w _) _) rfl _) rfl _
        | exact grown_set (g := g) (p := ⟨g, 0, none⟩) (grown_set (g := g) (p := ⟨g, 1, none⟩) (grown_set (g := g) (p := ⟨g, 1, none⟩) (grown_drewN (grown_refl w _) _) rfl _) rfl _) rfl _
end Go.Proofs.Ytenhblpegobbjaa
