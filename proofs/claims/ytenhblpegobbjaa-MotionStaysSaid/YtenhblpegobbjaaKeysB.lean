/- Contracts of package keys: has, used (Parse's own function), digits.Digit, arg. -/
import Derived.Test.YtenhblpegobbjaaChecked
import Derived.Test.YtenhblpegobbjaaOwn
import Derived.Test.YtenhblpegobbjaaKeysA
import Derived.Lib.IndexAny
namespace Go.Proofs.Ytenhblpegobbjaa
open Go.RowKit
set_option linter.unusedVariables false
set_option linter.unusedSimpArgs false
set_option maxRecDepth 100000 in
theorem has_any (s : ByteArray) (c : UInt8) (w : World) :
    Calls Try.prog 59 #[.string s, .int .u8 ((c.toNat : Nat) : Int)] w fun e w' => e = .returned (.bool (s.data.toList.contains c)) ∧ w = w' := by
  have hx := Lib.contains_iff_indexByte s.data.toList c
  have HX := Lib.hid hx; clear hx
  go_enter Try.func59, Try.ntmps59
  go_wp2_with fail
  refine (Try.strings_IndexByte s _ w).mono ?_
  rintro e w1 ⟨rfl, rfl⟩
  go_wp2_with fail
  go_ret
  refine ⟨?_, rfl⟩
  rw [HX.out]
  simp
set_option maxRecDepth 100000 in
/-- how many keys are gone -/
theorem used_any (b p g : Nat) (s : ByteArray) (l : List UInt8) (bad : Bool) (w : World) (hs : s.size ≤ 9223372036854775807) (hc : w.cell? ⟨b, 0, none⟩ = some (.string s)) (gp : w.cell? ⟨p, 0, none⟩ = some (.pointer (some ⟨g, 0, none⟩))) (h : Rd w g l bad) (hl : l.length ≤ s.size) :
    Calls Try.prog 56 #[.pointer (some ⟨b, 0, none⟩), .pointer (some ⟨p, 0, none⟩)] w fun e w' => e = .returned (.int .i64 ((s.size - l.length : Nat) : Int)) ∧ ∃ k, w' = w.drewN k := by
  obtain ⟨s2, hs2, hr⟩ := h
  have hc2 := hr.cell0 0 (by simp)
  simp only [List.getElem_cons_zero] at hc2
  have hlen : s2.size = l.length := by rw [← hs2]; simp
  have hsub : ((s.size : Int) - (l.length : Int)) = ((s.size - l.length : Nat) : Int) := by omega
  have HSUB := Lib.hid hsub; clear hsub hr hs2
  go_enter Try.func56, Try.ntmps56
  go_wp2_with fail
  go_quiet (fail)
  go_wp2_with fail
  go_ret
  exact ⟨by rw [← HSUB.out]; rfl, _, rfl⟩
namespace Keys
/-- what a byte is as a digit -/
def dig (c : Nat) : Int := if 48 ≤ c ∧ c ≤ 57 then (c : Int) - 48 else if 97 ≤ c ∧ c ≤ 102 then (c : Int) - 97 + 10 else if 65 ≤ c ∧ c ≤ 70 then (c : Int) - 65 + 10 else -1
end Keys
set_option maxRecDepth 100000 in
theorem Digit_any (c : Nat) (w : World) (h : c < 256) :
    Calls Try.prog 97 #[.int .u8 (c : Int)] w fun e w' => e = .returned (.int .i64 (Keys.dig c)) ∧ w = w' := by
  unfold Keys.dig
  by_cases h1 : 48 ≤ c ∧ c ≤ 57
  · have a1 : 48 ≤ c := h1.1
    have a2 : c ≤ 57 := h1.2
    rw [if_pos h1]
    clear h1
    go_enter Try.func97, Try.ntmps97
    go_wp2_with fail
    go_ret
    exact ⟨rfl, rfl⟩
  · rw [if_neg h1]
    have b1 : (decide ((48 : Int) ≤ (c : Int)) && decide ((c : Int) ≤ 57)) = false := by
      rw [Bool.and_eq_false_iff, decide_eq_false_iff_not, decide_eq_false_iff_not]; omega
    by_cases h2 : 97 ≤ c ∧ c ≤ 102
    · have a1 : 97 ≤ c := h2.1
      have a2 : c ≤ 102 := h2.2
      rw [if_pos h2]
      clear h1 h2
      go_enter Try.func97, Try.ntmps97
      go_wp2_with fail
      go_ret
      exact ⟨rfl, rfl⟩
    · rw [if_neg h2]
      by_cases h3 : 65 ≤ c ∧ c ≤ 70
      · have a1 : 65 ≤ c := h3.1
        have a2 : c ≤ 70 := h3.2
        rw [if_pos h3]
        clear h1 h2 h3
        go_enter Try.func97, Try.ntmps97
        go_wp2_with fail
        go_ret
        exact ⟨rfl, rfl⟩
      · rw [if_neg h3]
        go_enter Try.func97, Try.ntmps97
        go_wp2_with fail
        all_goals first | (go_ret; first | done | exact ⟨rfl, rfl⟩) | (exfalso; omega)
end Go.Proofs.Ytenhblpegobbjaa
