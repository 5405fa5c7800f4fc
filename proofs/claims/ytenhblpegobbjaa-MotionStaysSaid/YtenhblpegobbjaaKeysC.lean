/- Contracts of package keys: arg. -/
import Derived.Test.YtenhblpegobbjaaChecked
import Derived.Test.YtenhblpegobbjaaOwn
import Derived.Test.YtenhblpegobbjaaKeysB
namespace Go.Proofs.Ytenhblpegobbjaa
open Go.RowKit
set_option linter.unusedVariables false
set_option linter.unusedSimpArgs false
namespace Keys
/-- how many keys stand behind a key -/
def want (c : UInt8) : Nat := if c.toNat = 39 ∨ [109, 113, 64].contains c then 1 else if c.toNat = 102 ∨ c.toNat = 114 then 2 else 0
/-- a key that may not stand there -/
def wrong (n : Nat) (c : UInt8) : Bool := (n == 1 && (decide (c.toNat < 97) || decide (122 < c.toNat))) || (n == 2 && decide (dig c.toNat < 0))
end Keys
set_option maxRecDepth 100000 in
theorem arg_none (g : Nat) (c : UInt8) (L : List UInt8) (bad : Bool) (w : World) (h : Rd w g L bad) (h39 : c.toNat ≠ 39) (hm : [109, 113, 64].contains c = false) (h102 : c.toNat ≠ 102) (h114 : c.toNat ≠ 114) :
    Calls Try.prog 60 #[.pointer (some ⟨g, 0, none⟩), .int .u8 ((c.toNat : Nat) : Int)] w fun e w' => e = .returned (.tuple #[.string ByteArray.empty, .bool true]) ∧ Rd w' g L bad ∧ w.grownBy w' (some g) := by
  obtain ⟨s, hs, hr⟩ := h
  have hc := hr.cell0 0 (by simp)
  have hf := hr.frozen0 0 (by simp)
  simp only [List.getElem_cons_zero] at hc
  have HR := Lib.hid hr; clear hr
  have HS := Lib.hid hs; clear hs
  have e39 : ((c.toNat : Int) == 39) = false := by rw [beq_eq_false_iff_ne]; omega
  have e102 : ((c.toNat : Int) == 102) = false := by rw [beq_eq_false_iff_ne]; omega
  have e114 : ((c.toNat : Int) == 114) = false := by rw [beq_eq_false_iff_ne]; omega
  clear h39 h102 h114
  go_enter Try.func60, Try.ntmps60
  go_wp2_with fail
  refine (has_any _ c w).mono ?_
  rintro e w1 ⟨rfl, rfl⟩
  rw [show (ByteArray.mk #[109, 113, 64]).data.toList.contains c = false from hm]
  have hex : s.extract 0 0 = ByteArray.empty := by apply ByteArray.ext; simp
  have hmin : min (0 : Int) (s.size : Int) = 0 := by omega
  have hexI : (0 : Int) ≤ (s.size : Int) := by omega
  have hall : s.extract 0 s.size = s := by simp
  have HALL := Lib.hid hall; clear hall
  go_wp2_with fail
  go_quiet (fail)
  go_wp2_with fail
  have hcq : (w.drewN nq).cell? ⟨g, 0, none⟩ = some (.string s) := hc
  have hfq : (w.drewN nq).frozen? ⟨g, 0, none⟩ = false := hf
  refine wp_loop_rounds 1 ?_
  rw [rounds_succ]
  go_wp2_with fail
  go_ret2
  have hr : RowAt (w.drewN nq) g 0 95 [.string s, .bool bad] := HR.out
  exact ⟨rfl, ⟨s, HS.out, hr.set0 0 (by simp) (.string s)⟩, grown_set (grown_drewN (grown_refl w _) _) rfl _⟩
set_option maxRecDepth 100000 in
theorem arg_one_nil (g : Nat) (c : UInt8) (bad : Bool) (w : World) (h : Rd w g [] bad) (hk : c.toNat = 39 ∨ [109, 113, 64].contains c = true) :
    Calls Try.prog 60 #[.pointer (some ⟨g, 0, none⟩), .int .u8 ((c.toNat : Nat) : Int)] w fun e w' => e = .returned (.tuple #[.string ByteArray.empty, .bool false]) ∧ Rd w' g [] bad ∧ w.grownBy w' (some g) := by
  obtain ⟨s, hs, hr⟩ := h
  obtain rfl : s = ByteArray.empty := by
    apply ByteArray.ext; apply Array.ext'; exact hs
  have hc := hr.cell0 0 (by simp)
  have hf := hr.frozen0 0 (by simp)
  simp only [List.getElem_cons_zero] at hc
  have HR := Lib.hid hr; clear hr hs
  by_cases h39 : c.toNat = 39
  case' pos =>
    have e39 : ((c.toNat : Int) == 39) = true := by rw [beq_iff_eq]; omega
    clear h39 hk
    go_enter Try.func60, Try.ntmps60
    go_wp2_with fail
  case' neg =>
    have e39 : ((c.toNat : Int) == 39) = false := by rw [beq_eq_false_iff_ne]; omega
    have hm := hk.resolve_left h39
    clear h39 hk
    go_enter Try.func60, Try.ntmps60
    go_wp2_with fail
    refine (has_any _ c w).mono ?_
    rintro e w1 ⟨rfl, rfl⟩
    rw [show (ByteArray.mk #[109, 113, 64]).data.toList.contains c = true from hm]
    go_wp2_with fail
  all_goals
    go_quiet (fail)
    go_wp2_with fail
    have hcq : (w.drewN nq).cell? ⟨g, 0, none⟩ = some (.string ByteArray.empty) := hc
    have hfq : (w.drewN nq).frozen? ⟨g, 0, none⟩ = false := hf
    refine wp_loop_rounds 1 ?_
    rw [rounds_succ]
    go_wp2_with fail
    go_ret2
    have hr : RowAt (w.drewN nq) g 0 95 [.string ByteArray.empty, .bool bad] := HR.out
    exact ⟨rfl, ⟨ByteArray.empty, rfl, hr.set0 0 (by simp) (.string ByteArray.empty)⟩, grown_set (grown_drewN (grown_refl w _) _) rfl _⟩
theorem extract_first (s : ByteArray) (n : Nat) : (s.extract 0 n).data.toList = s.data.toList.take n := by
  simp [ByteArray.data_extract, List.extract_eq_take_drop]
theorem extract_rest (s : ByteArray) (n : Nat) : (s.extract n s.size).data.toList = s.data.toList.drop n := by
  simp only [ByteArray.data_extract, Array.toList_extract, List.extract_eq_take_drop]
  rw [List.take_of_length_le]
  simp
set_option maxRecDepth 100000 in
set_option maxHeartbeats 1000000 in
theorem arg_one_cons (g : Nat) (c d : UInt8) (l : List UInt8) (bad : Bool) (w : World) (h : Rd w g (d :: l) bad) (hk : c.toNat = 39 ∨ [109, 113, 64].contains c = true) :
    Calls Try.prog 60 #[.pointer (some ⟨g, 0, none⟩), .int .u8 ((c.toNat : Nat) : Int)] w fun e w' => ∃ s1 : ByteArray, s1.data.toList = [d] ∧ e = .returned (.tuple #[.string s1, .bool true]) ∧ Rd w' g l (bad || (decide (d.toNat < 97) || decide (122 < d.toNat))) ∧ w.grownBy w' (some g) := by
  obtain ⟨s, hs, hr⟩ := h
  have hc := hr.cell0 0 (by simp)
  have hf := hr.frozen0 0 (by simp)
  have hf1 := hr.frozen0 1 (by simp)
  have hc1 := hr.cell0 1 (by simp)
  simp only [List.getElem_cons_zero] at hc
  simp only [List.getElem_cons_zero, List.getElem_cons_succ] at hc1
  have HR := Lib.hid hr; clear hr
  have hsz : 0 < s.size := by have := data_length s; rw [hs] at this; simp at this; omega
  have hszI : (0 : Int) < (s.size : Int) := by omega
  have hszI2 : (1 : Int) ≤ (s.size : Int) := by omega
  have hmin : min (1 : Int) (s.size : Int) = 1 := by omega
  have hx := extract_one s d l hs
  obtain ⟨s1, hs1⟩ : ∃ s1, s.extract 0 1 = s1 := ⟨_, rfl⟩
  have hs1l : s1.data.toList = [d] := by rw [← hs1, extract_first, hs]; rfl
  have hz1 : s1.size = 1 := by have := data_length s1; rw [hs1l] at this; simpa using this.symm
  have hz1p : 0 < s1.size := by omega
  have h0 : s1[0] = d := by rw [byteAt s1 0 hz1p, hs1l]; rfl
  have HX := Lib.hid hx; clear hx
  have HS1 := Lib.hid hs1l; clear hs1l hs
  by_cases h39 : c.toNat = 39
  case' pos =>
    have e39 : ((c.toNat : Int) == 39) = true := by rw [beq_iff_eq]; omega
    clear h39 hk
    go_enter Try.func60, Try.ntmps60
    go_wp2_with fail
  case' neg =>
    have e39 : ((c.toNat : Int) == 39) = false := by rw [beq_eq_false_iff_ne]; omega
    have hm := hk.resolve_left h39
    clear h39 hk
    go_enter Try.func60, Try.ntmps60
    go_wp2_with fail
    refine (has_any _ c w).mono ?_
    rintro e w1 ⟨rfl, rfl⟩
    rw [show (ByteArray.mk #[109, 113, 64]).data.toList.contains c = true from hm]
    go_wp2_with fail
  all_goals
    go_quiet (fail)
    go_wp2_with fail
    have hcq : (w.drewN nq).cell? ⟨g, 0, none⟩ = some (.string s) := hc
    have hfq : (w.drewN nq).frozen? ⟨g, 0, none⟩ = false := hf
    have hfq1 : (w.drewN nq).frozen? ⟨g, 1, none⟩ = false := hf1
    refine wp_loop_rounds 2 ?_
    rw [rounds_succ]
    go_wp2_with fail
  all_goals
    rw [rounds_succ]
    go_wp2_with fail
    go_ret2
    have hr : RowAt (w.drewN nq) g 0 95 [.string s, .bool bad] := HR.out
    refine ⟨s1, HS1.out, rfl, ⟨_, HX.out, ?_⟩, grown_set ?_ rfl _⟩
    · first
        | (have e1 : (decide (d.toNat < 97) || decide (122 < d.toNat)) = false := by
             rw [Bool.or_eq_false_iff, decide_eq_false_iff_not, decide_eq_false_iff_not]; omega
           rw [e1, Bool.or_false]
           exact hr.set0 0 (by simp) _)
        | (have e1 : (decide (d.toNat < 97) || decide (122 < d.toNat)) = true := by
             rw [Bool.or_eq_true_iff, decide_eq_true_iff, decide_eq_true_iff]; omega
           rw [e1, Bool.or_true]
           exact (hr.set0 1 (by simp) (.bool true)).set0 0 (by simp) _)
    · first
        | exact grown_drewN (grown_refl w _) _
        | exact grown_set (grown_drewN (grown_refl w _) _) rfl _
end Go.Proofs.Ytenhblpegobbjaa
