/- The law SpansOne. -/
import Derived.Test.YtnldobfafaajjaaSpansF
namespace Go.Proofs.Ytnldobfafaajjaa
open Go.RowKit
set_option linter.unusedVariables false
set_option linter.unusedSimpArgs false
theorem few_any (x : Option Addr) (n cap : Nat) (w : World) : Calls Try.prog 14 #[.slice x n cap] w fun e w' => e = .returned (.bool (decide (n ≤ 40))) ∧ w = w' := by
  have h : decide ((n : Int) ≤ 40) = decide (n ≤ 40) := by rw [decide_eq_decide]; omega
  have H := Lib.hid h; clear h
  go_enter Try.func14, Try.ntmps14
  go_wp2_with fail
  go_ret
  exact ⟨ret_bool H.out, rfl⟩
namespace Spans
theorem Norm.right {l m : List Sp} (h : Norm l m) : decide (rowed (-1) l) = (decide (l.length = 0) || decide (m = l)) := by
  rw [Bool.eq_iff_iff]
  simp only [Bool.or_eq_true, decide_eq_true_eq]
  constructor
  · intro hr; exact .inr (h.uniq (Norm.self hr))
  · rintro (hl | rfl)
    · rw [List.length_eq_zero_iff] at hl; subst hl; trivial
    · exact h.1
end Spans
set_option maxRecDepth 100000 in
set_option maxHeartbeats 2000000 in
theorem SpansOne_l (x : Option Addr) (n cap : Nat) (l : List Spans.Sp) (at_ : Int) (w : World) (hl : ReadsSp w w.heap.size x n cap l) :
    Calls Try.prog 5 #[.slice x n cap, .int .i64 at_] w fun e w' => e = .returned (.bool true) ∧ Below w.heap.size w w' := by
  have HLN := Lib.hid hl.1
  have HL := Lib.hid hl; clear hl
  go_enter Try.func5, Try.ntmps5
  go_wp2_with fail
  refine (spanned_any _).mono ?_
  rintro e w1 ⟨rfl, hb1⟩
  go_wp2_with fail
  refine (few_any x n cap w1).mono ?_
  rintro e w2 ⟨rfl, rfl⟩
  by_cases h40 : n ≤ 40
  · rw [decide_eq_true h40]
    have HL1 := Lib.hid ((HL.out.below hb1).up hb1.size)
    go_wp2_with fail
    refine (Of_any x n cap l w1 HL1.out (by omega)).mono ?_
    rintro e w2 ⟨a, m, c, ml, rfl, hml, hmn, hnorm, hown, hb2⟩
    have HM2 := Lib.hid (hown.reads hml)
    clear hown
    have HN := Lib.hid hnorm; clear hnorm
    have HL2 := Lib.hid ((HL1.out.below hb2).up hb2.size)
    have q2 := hb1.trans (hb2.mono hb1.size)
    have hm40 : m ≤ 40 := by omega
    clear hb1 hb2 HL1
    go_wp2_with fail
    refine (Right_any a m c ml w2 HM2.out (by omega)).mono ?_
    rintro e w3 ⟨rfl, hb3⟩
    rw [decide_eq_true HN.out.1]
    have HM3 := Lib.hid ((HM2.out.below hb3).up hb3.size)
    have HL3 := Lib.hid ((HL2.out.below hb3).up hb3.size)
    have q3 := q2.trans (hb3.mono q2.size)
    clear hb3 HM2 HL2 q2
    go_wp2_with fail
    refine (Of_any a m c ml w3 HM3.out (by omega)).mono ?_
    rintro e w4 ⟨a2, m2, c2, ml2, rfl, hml2, hmn2, hnorm2, hown2, hb4⟩
    obtain rfl := hnorm2.uniq (Spans.Norm.self HN.out.1)
    obtain rfl : m2 = m := by rw [← hml2, ← hml]
    have HX4 := Lib.hid (hown2.reads hml2)
    clear hown2 hnorm2 hmn2
    have HM4 := Lib.hid ((HM3.out.below hb4).up hb4.size)
    have HL4 := Lib.hid ((HL3.out.below hb4).up hb4.size)
    have q4 := q3.trans (hb4.mono q3.size)
    clear hb4 HM3 HL3 q3
    go_wp2_with fail
    refine (spEqual_any a2 a m2 m2 c2 c _ _ _ _ w4 (by omega) HX4.out HM4.out).mono ?_
    rintro e w5 ⟨rfl, kq, rfl⟩
    rw [decide_eq_true (rfl : ml2 = ml2)]
    have hb5 : Below w4.heap.size w4 (w4.drewN kq) := ⟨rfl, rfl, rfl, Nat.le_refl _, fun _ _ => rfl⟩
    generalize w4.drewN kq = w5 at *
    clear HX4
    have HM5 := Lib.hid ((HM4.out.below hb5).up hb5.size)
    have HL5 := Lib.hid ((HL4.out.below hb5).up hb5.size)
    have q5 := q4.trans (hb5.mono q4.size)
    clear hb5 HM4 HL4 q4
    have hright := HN.out.right
    have hhas := HN.out.2 at_
    by_cases hat : at_ < 0
    · have d1 : decide (at_ < 0) = true := decide_eq_true hat
      have HR := Lib.hid hright; clear hright hhas
      go_wp2_with fail
      refine (Right_any x n cap l w5 HL5.out (by omega)).mono ?_
      rintro e w8 ⟨rfl, hb8⟩
      rw [HR.out, HLN.out]
      have HM8 := Lib.hid ((HM5.out.below hb8).up hb8.size)
      have HL8 := Lib.hid ((HL5.out.below hb8).up hb8.size)
      have q8 := q5.trans (hb8.mono q5.size)
      clear hb8 HM5 HL5 q5
      by_cases hn0 : n = 0
      · have z1 : ((n : Int) == 0) = true := by rw [beq_iff_eq]; omega
        rw [decide_eq_true hn0, Bool.true_or]
        have HN0 := Lib.hid hn0; clear hn0
        go_wp2_with fail
        go_ret
        exact ⟨rfl, q8⟩
      · have z1 : ((n : Int) == 0) = false := by rw [beq_eq_false_iff_ne]; omega
        rw [decide_eq_false hn0, Bool.false_or]
        have HN0 := Lib.hid hn0; clear hn0
        have heq := fun w h1 h2 => spEqual_any a x m2 n c cap w8.heap.size w8.heap.size ml2 l w (by omega) h1 h2
        generalize decide (ml2 = l) = bv at *
        have HEQ := Lib.hid (heq w8 HM8.out HL8.out); clear heq
        go_wp2_with fail
        refine HEQ.out.mono ?_
        rintro e w9 ⟨rfl, kq, rfl⟩
        go_wp2_with fail
        go_ret
        exact ⟨rfl, ⟨q8.os, q8.tape, q8.output, q8.size, q8.block⟩⟩
    · have d1 : decide (at_ < 0) = false := decide_eq_false hat
      have hh := hhas (by omega)
      have HR := Lib.hid hright; clear hright hhas
      have HH := Lib.hid hh; clear hh
      go_wp2_with fail
      refine (Has_any a m2 c ml2 at_ w5 HM5.out (by omega)).mono ?_
      rintro e w6 ⟨rfl, hb6⟩
      rw [HH.out]
      have HM6 := Lib.hid ((HM5.out.below hb6).up hb6.size)
      have HL6 := Lib.hid ((HL5.out.below hb6).up hb6.size)
      have q6 := q5.trans (hb6.mono q5.size)
      clear hb6 HM5 HL5 q5
      go_wp2_with fail
      refine (Has_any x n cap l at_ w6 HL6.out (by omega)).mono ?_
      rintro e w7 ⟨rfl, hb7⟩
      generalize Spans.has l at_ = hv at *
      have HM7 := Lib.hid ((HM6.out.below hb7).up hb7.size)
      have HL7 := Lib.hid ((HL6.out.below hb7).up hb7.size)
      have q7 := q6.trans (hb7.mono q6.size)
      clear hb7 HM6 HL6 q6
      go_wp2_with fail
      refine (Right_any x n cap l w7 HL7.out (by omega)).mono ?_
      rintro e w8 ⟨rfl, hb8⟩
      rw [HR.out, HLN.out]
      have HM8 := Lib.hid ((HM7.out.below hb8).up hb8.size)
      have HL8 := Lib.hid ((HL7.out.below hb8).up hb8.size)
      have q8 := q7.trans (hb8.mono q7.size)
      clear hb8 HM7 HL7 q7
      by_cases hn0 : n = 0
      · have z1 : ((n : Int) == 0) = true := by rw [beq_iff_eq]; omega
        rw [decide_eq_true hn0, Bool.true_or]
        have HN0 := Lib.hid hn0; clear hn0
        go_wp2_with fail
        go_ret
        exact ⟨rfl, q8⟩
      · have z1 : ((n : Int) == 0) = false := by rw [beq_eq_false_iff_ne]; omega
        rw [decide_eq_false hn0, Bool.false_or]
        have HN0 := Lib.hid hn0; clear hn0
        have heq := fun w h1 h2 => spEqual_any a x m2 n c cap w8.heap.size w8.heap.size ml2 l w (by omega) h1 h2
        generalize decide (ml2 = l) = bv at *
        have HEQ := Lib.hid (heq w8 HM8.out HL8.out); clear heq
        go_wp2_with fail
        refine HEQ.out.mono ?_
        rintro e w9 ⟨rfl, kq, rfl⟩
        go_wp2_with fail
        go_ret
        exact ⟨rfl, ⟨q8.os, q8.tape, q8.output, q8.size, q8.block⟩⟩
  · rw [decide_eq_false h40]
    go_wp2_with fail
    go_ret
    exact ⟨rfl, hb1⟩
theorem SpansOne_walk (w : World) (x : Option Addr) (n cap : Nat) (l : List Spans.Sp) (at_ : Int) (hl : ReadsSp w w.heap.size x n cap l) (h1 : -9223372036854775808 ≤ at_) (h2 : at_ ≤ 9223372036854775807) :
    Calls Try.prog 5 #[.slice x n cap, .int .i64 at_] w fun e w' => e = .returned (.bool true) ∧ Below w.heap.size w w' := SpansOne_l x n cap l at_ w hl
end Go.Proofs.Ytnldobfafaajjaa
