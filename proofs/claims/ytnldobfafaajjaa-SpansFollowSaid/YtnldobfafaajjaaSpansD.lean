/- The law SpansFollow. -/
import Derived.Test.YtnldobfafaajjaaSpansC
import Derived.Test.YtnldobfafaajjaaPick
namespace Go.Proofs.Ytnldobfafaajjaa
open Go.RowKit
set_option linter.unusedVariables false
set_option linter.unusedSimpArgs false
namespace Spans
theorem moved_le (S A O I P : Nat) (hA : A ≤ S) (hO : O ≤ S - A) (hP : P ≤ S) : moved P A O I ≤ S - O + I := by
  unfold moved; split
  · omega
  · split <;> omega
theorem moved_order (A O I P Q : Nat) (h : P ≤ Q) : moved P A O I ≤ moved Q A O I := by
  unfold moved; split <;> split <;> (try split) <;> (try split) <;> omega
theorem moved_same (s i : List UInt8) (A O P : Nat) (hA : A ≤ s.length) (hO : O ≤ s.length - A) (hP : P < s.length) (h : ¬ (A ≤ P ∧ P < A + O)) : moved P A O i.length < (s.take A ++ i ++ s.drop (A + O)).length ∧ (s.take A ++ i ++ s.drop (A + O)).getD (moved P A O i.length) 0 = s.getD P 0 := by
  have hl : (s.take A).length = A := by rw [List.length_take]; omega
  have hd : (s.drop (A + O)).length = s.length - (A + O) := List.length_drop ..
  unfold moved
  rw [List.length_append, List.length_append, hl, hd]
  by_cases h1 : P < A
  · rw [if_pos h1]
    refine ⟨by omega, ?_⟩
    rw [List.getD_eq_getElem?_getD, List.getD_eq_getElem?_getD, List.append_assoc, List.getElem?_append_left (by omega), List.getElem?_take_of_lt h1]
  · have h2 : A + O ≤ P := by omega
    rw [if_neg h1, if_pos h2]
    refine ⟨by omega, ?_⟩
    rw [List.getD_eq_getElem?_getD, List.getD_eq_getElem?_getD, List.getElem?_append_right (by rw [List.length_append, hl]; omega), List.length_append, hl, List.getElem?_drop]
    congr 2
    omega
end Spans
theorem sp_at (l : List UInt8) (k : Nat) (h : k < (bstr l).size) : (bstr l)[k]'h = l.getD k 0 := by
  have hk : k < l.length := by rwa [bstr_size] at h
  rw [List.getD_eq_getElem?_getD, List.getElem?_eq_getElem hk]
  rfl
theorem sp_ex (l : List UInt8) (i j : Nat) : (bstr l).extract i j = bstr ((l.drop i).take (j - i)) := by
  apply ByteArray.ext
  apply Array.ext'
  rw [ByteArray.data_extract, Array.toList_extract]
  rfl
theorem w_add (a o : Nat) (h : a + o ≤ 100000) : wrap64 ((a : Int) + (o : Int)) = (a : Int) + o ∧ IntKind.i64.wrap ((a : Int) + (o : Int)) = (a : Int) + o :=
  ⟨IntWalk.wrap64_in _ ⟨by omega, by omega⟩, IntWalk.i64_in _ ⟨by omega, by omega⟩⟩
theorem n_add (a o : Nat) : ((a : Int) + (o : Int)).toNat = a + o := by omega
set_option maxRecDepth 100000 in
set_option maxHeartbeats 2000000 in
theorem SpansFollow_l (s i : List UInt8) (at_ out p q : Int) (hs : s.length ≤ 140737488351232) (hi : i.length ≤ 140737488351232) (w : World) :
    Calls Try.prog 4 #[.string (bstr s), .int .i64 at_, .int .i64 out, .string (bstr i), .int .i64 p, .int .i64 q] w fun e w' => e = .returned (.bool true) ∧ Below w.heap.size w w' := by
  go_enter Try.func4, Try.ntmps4
  go_wp2_with fail
  refine (spanned_any _).mono ?_
  rintro e w1 ⟨rfl, hb1⟩
  by_cases h1 : 200 < s.length
  · have d1 : decide ((200 : Int) < (s.length : Int)) = true := by rw [decide_eq_true_eq]; omega
    have d1n : decide (200 < s.length) = true := by rw [decide_eq_true_eq]; omega
    go_wp2_with fail
    go_ret
    exact ⟨rfl, hb1⟩
  · have d1 : decide ((200 : Int) < (s.length : Int)) = false := by rw [decide_eq_false_iff_not]; omega
    have d1n : decide (200 < s.length) = false := by rw [decide_eq_false_iff_not]; omega
    by_cases h2 : 100 < i.length
    · have d2 : decide ((100 : Int) < (i.length : Int)) = true := by rw [decide_eq_true_eq]; omega
      have d2n : decide (100 < i.length) = true := by rw [decide_eq_true_eq]; omega
      go_wp2_with fail
      go_ret
      exact ⟨rfl, hb1⟩
    · have d2 : decide ((100 : Int) < (i.length : Int)) = false := by rw [decide_eq_false_iff_not]; omega
      have d2n : decide (100 < i.length) = false := by rw [decide_eq_false_iff_not]; omega
      have g1 : wrap64 ((s.length : Int) + 1) = (s.length : Int) + 1 := IntWalk.wrap64_in _ ⟨by omega, by omega⟩
      have g2 : IntKind.i64.wrap ((s.length : Int) + 1) = (s.length : Int) + 1 := IntWalk.i64_in _ ⟨by omega, by omega⟩
      go_wp2_with fail
      refine (pick_at at_ _ (s.length + 1) w1 (by omega) (by omega) (by omega)).mono ?_
      rintro e w2 ⟨rfl, rfl⟩
      have hA := pickN_lt at_ (s.length + 1) (by omega)
      generalize pickN at_ (s.length + 1) = A at *
      have g3 : wrap64 ((s.length : Int) - (A : Int)) = (s.length : Int) - A := IntWalk.wrap64_in _ ⟨by omega, by omega⟩
      have g4 : IntKind.i64.wrap ((s.length : Int) - (A : Int)) = (s.length : Int) - A := IntWalk.i64_in _ ⟨by omega, by omega⟩
      have g5 : wrap64 ((s.length : Int) - (A : Int) + 1) = (s.length : Int) - A + 1 := IntWalk.wrap64_in _ ⟨by omega, by omega⟩
      have g6 : IntKind.i64.wrap ((s.length : Int) - (A : Int) + 1) = (s.length : Int) - A + 1 := IntWalk.i64_in _ ⟨by omega, by omega⟩
      go_wp2_with fail
      refine (pick_at out _ (s.length - A + 1) w1 (by omega) (by omega) (by omega)).mono ?_
      rintro e w2 ⟨rfl, rfl⟩
      have hO := pickN_lt out (s.length - A + 1) (by omega)
      generalize pickN out (s.length - A + 1) = O at *
      go_wp2_with fail
      refine (pick_at p _ (s.length + 1) w1 (by omega) (by omega) (by omega)).mono ?_
      rintro e w2 ⟨rfl, rfl⟩
      have hP := pickN_lt p (s.length + 1) (by omega)
      generalize pickN p (s.length + 1) = P at *
      go_wp2_with fail
      refine (pick_at q _ (s.length + 1) w1 (by omega) (by omega) (by omega)).mono ?_
      rintro e w2 ⟨rfl, rfl⟩
      have hQ := pickN_lt q (s.length + 1) (by omega)
      generalize pickN q (s.length + 1) = Q at *
      clear g1 g2 g3 g4 g5 g6
      have x1 := sp_ex s 0 A
      rw [List.drop_zero, Nat.sub_zero] at x1
      have x2 := sp_ex s (A + O) s.length
      rw [List.take_of_length_le (by rw [List.length_drop]; omega)] at x2
      have g10 : (A : Int) ≤ (s.length : Int) := by omega
      have g11 : (A : Int) + (O : Int) ≤ (s.length : Int) := by omega
      have g12 : (0 : Int) ≤ (A : Int) + (O : Int) := by omega
      have hl1 : (s.take A).length = A := by rw [List.length_take]; omega
      have hl2 : (s.drop (A + O)).length = s.length - (A + O) := List.length_drop ..
      have hmle := Spans.moved_le s.length A O i.length P (by omega) (by omega) (by omega)
      have hmord := Spans.moved_order A O i.length P Q
      have hsm := Spans.moved_same s i A O P (by omega) (by omega)
      have HSM := Lib.hid hsm; clear hsm
      have HORD := Lib.hid hmord; clear hmord
      generalize s.take A = sa at *
      generalize s.drop (A + O) = sd at *
      have l1 : sa.length ≤ 200 := by omega
      have l2 : sd.length ≤ 200 := by omega
      have HL1 := Lib.hid hl1; clear hl1
      have HL2 := Lib.hid hl2; clear hl2
      have HMLE := Lib.hid hmle; clear hmle
      have k1 : ¬ 9223372036854775807 < sa.length + i.length := by omega
      have k3 : ¬ 9223372036854775807 < sa.length + i.length + sd.length := by omega
      have k4 : ¬ 9223372036854775807 < sa.length + (i.length + sd.length) := by omega
      have hsum : A + O ≤ 100000 := by omega
      obtain ⟨g7, g8⟩ := w_add A O hsum
      clear hsum
      have g9 := n_add A O
      go_wp2_with fail
      go_quiet (fail)
      have hT : sa ++ i ++ sd = sa ++ (i ++ sd) := List.append_assoc _ _ _
      rw [hT] at HSM
      clear hT
      have hTl : (sa ++ (i ++ sd)).length = s.length - O + i.length := by have := HL1.out; have := HL2.out; rw [List.length_append, List.length_append]; clear g7 g8; omega
      generalize sa ++ (i ++ sd) = T at *
      have hb2 : Below w.heap.size w (w1.drewN nq) := ⟨hb1.os, hb1.tape, hb1.output, hb1.size, hb1.block⟩
      generalize w1.drewN nq = w2 at *
      have hmP := Moved_any P A O i.length w2 (by clear g7 g8; omega) (by clear g7 g8; omega) (by clear g7 g8; omega) (by clear g7 g8; omega)
      have hmQ := Moved_any Q A O i.length w2 (by clear g7 g8; omega) (by clear g7 g8; omega) (by clear g7 g8; omega) (by clear g7 g8; omega)
      have hle := HMLE.out
      rw [← hTl] at hle
      have hordr := HORD.out
      have hsame := HSM.out
      clear HMLE HORD HSM
      generalize Spans.moved P A O i.length = a at *
      generalize Spans.moved Q A O i.length = b at *
      have HMP := Lib.hid hmP; clear hmP
      have HMQ := Lib.hid hmQ; clear hmQ
      have HTL := Lib.hid hTl; clear hTl
      have G7 := Lib.hid g7; clear g7
      have G8 := Lib.hid g8; clear g8
      clear x1 x2 k1 k3 k4 l1 l2 HL1 HL2 g9 d1 d1n d2 d2n
      have hsl : s.length ≤ 200 := by omega
      have f2 : decide ((T.length : Int) < (a : Int)) = false := by rw [decide_eq_false_iff_not]; omega
      have f2n : decide (T.length < a) = false := by rw [decide_eq_false_iff_not]; omega
      have f1 : decide ((a : Int) < 0) = false := by rw [decide_eq_false_iff_not]; omega
      by_cases hPQ : P ≤ Q
      · have r1 : decide ((P : Int) ≤ (Q : Int)) = true := by rw [decide_eq_true_eq]; omega
        have r1n : decide (P ≤ Q) = true := by rw [decide_eq_true_eq]; omega
        have hab := hordr hPQ
        have r2 : decide ((b : Int) < (a : Int)) = false := by rw [decide_eq_false_iff_not]; omega
        have r2n : decide (b < a) = false := by rw [decide_eq_false_iff_not]; omega
        by_cases hPS : P = s.length
        · have p1 : ((P : Int) == (s.length : Int)) = true := by rw [beq_iff_eq]; omega
          have p1n : (P == s.length) = true := by rw [beq_iff_eq]; omega
          have HPS_ := Lib.hid hPS; clear hPS
          have g7 := G7.out
          have g8 := G8.out
          have e1 : (0 : Int) ≤ (a : Int) := Int.natCast_nonneg a
          clear hordr hsame hle
          go_wp2_with fail
          refine HMP.out.mono ?_
          rintro e w3 ⟨rfl, rfl⟩
          go_wp2_with fail
          refine HMQ.out.mono ?_
          rintro e w3 ⟨rfl, rfl⟩
          go_wp2_with fail
          go_quiet (fail)
          go_wp2_with fail
          go_ret
          exact ⟨rfl, ⟨hb2.os, hb2.tape, hb2.output, hb2.size, hb2.block⟩⟩
        · by_cases hAP : A ≤ P
          · by_cases hPO : P < A + O
            · have p1 : ((P : Int) == (s.length : Int)) = false := by rw [beq_eq_false_iff_ne]; omega
              have p1n : (P == s.length) = false := by rw [beq_eq_false_iff_ne]; omega
              have p2 : decide ((A : Int) ≤ (P : Int)) = true := by rw [decide_eq_true_eq]; omega
              have p2n : decide (A ≤ P) = true := by rw [decide_eq_true_eq]; omega
              have p3 : decide ((P : Int) < (A : Int) + (O : Int)) = true := by rw [decide_eq_true_eq]; omega
              have p3n : decide (P < A + O) = true := by rw [decide_eq_true_eq]; omega
              have HPS_ := Lib.hid hPS; clear hPS
              have g7 := G7.out
              have g8 := G8.out
              have e1 : (0 : Int) ≤ (a : Int) := Int.natCast_nonneg a
              clear hordr hsame hle
              go_wp2_with fail
              refine HMP.out.mono ?_
              rintro e w3 ⟨rfl, rfl⟩
              go_wp2_with fail
              refine HMQ.out.mono ?_
              rintro e w3 ⟨rfl, rfl⟩
              go_wp2_with fail
              go_quiet (fail)
              go_wp2_with fail
              go_ret
              exact ⟨rfl, ⟨hb2.os, hb2.tape, hb2.output, hb2.size, hb2.block⟩⟩
            · have p1 : ((P : Int) == (s.length : Int)) = false := by rw [beq_eq_false_iff_ne]; omega
              have p1n : (P == s.length) = false := by rw [beq_eq_false_iff_ne]; omega
              have p2 : decide ((A : Int) ≤ (P : Int)) = true := by rw [decide_eq_true_eq]; omega
              have p2n : decide (A ≤ P) = true := by rw [decide_eq_true_eq]; omega
              have p3 : decide ((P : Int) < (A : Int) + (O : Int)) = false := by rw [decide_eq_false_iff_not]; omega
              have p3n : decide (P < A + O) = false := by rw [decide_eq_false_iff_not]; omega
              have hPs : P < s.length := by omega
              obtain ⟨ha1, ha2⟩ := hsame hPs (by omega)
              have i1 := sp_at T a (by rw [bstr_size]; exact ha1)
              have i2 := sp_at s P (by rw [bstr_size]; exact hPs)
              rw [ha2] at i1
              generalize s.getD P 0 = y at *
              have p4 : decide ((a : Int) < (T.length : Int)) = true := by rw [decide_eq_true_eq]; omega
              have p4n : decide (a < T.length) = true := by rw [decide_eq_true_eq]; omega
              have p5 : (a : Int) < (T.length : Int) := by omega
              have p6 : (P : Int) < (s.length : Int) := by omega
              have HPS_ := Lib.hid hPS; clear hPS
              have g7 := G7.out
              have g8 := G8.out
              have e1 : (0 : Int) ≤ (a : Int) := Int.natCast_nonneg a
              clear hordr hsame hle
              go_wp2_with fail
              refine HMP.out.mono ?_
              rintro e w3 ⟨rfl, rfl⟩
              go_wp2_with fail
              refine HMQ.out.mono ?_
              rintro e w3 ⟨rfl, rfl⟩
              go_wp2_with fail
              go_quiet (fail)
              go_wp2_with fail
              go_ret
              exact ⟨rfl, ⟨hb2.os, hb2.tape, hb2.output, hb2.size, hb2.block⟩⟩
          · have p1 : ((P : Int) == (s.length : Int)) = false := by rw [beq_eq_false_iff_ne]; omega
            have p1n : (P == s.length) = false := by rw [beq_eq_false_iff_ne]; omega
            have p2 : decide ((A : Int) ≤ (P : Int)) = false := by rw [decide_eq_false_iff_not]; omega
            have p2n : decide (A ≤ P) = false := by rw [decide_eq_false_iff_not]; omega
            have hPs : P < s.length := by omega
            obtain ⟨ha1, ha2⟩ := hsame hPs (by omega)
            have i1 := sp_at T a (by rw [bstr_size]; exact ha1)
            have i2 := sp_at s P (by rw [bstr_size]; exact hPs)
            rw [ha2] at i1
            generalize s.getD P 0 = y at *
            have p4 : decide ((a : Int) < (T.length : Int)) = true := by rw [decide_eq_true_eq]; omega
            have p4n : decide (a < T.length) = true := by rw [decide_eq_true_eq]; omega
            have p5 : (a : Int) < (T.length : Int) := by omega
            have p6 : (P : Int) < (s.length : Int) := by omega
            have HPS_ := Lib.hid hPS; clear hPS
            have g7 := G7.out
            have g8 := G8.out
            have e1 : (0 : Int) ≤ (a : Int) := Int.natCast_nonneg a
            clear hordr hsame hle
            go_wp2_with fail
            refine HMP.out.mono ?_
            rintro e w3 ⟨rfl, rfl⟩
            go_wp2_with fail
            refine HMQ.out.mono ?_
            rintro e w3 ⟨rfl, rfl⟩
            go_wp2_with fail
            go_quiet (fail)
            go_wp2_with fail
            go_ret
            exact ⟨rfl, ⟨hb2.os, hb2.tape, hb2.output, hb2.size, hb2.block⟩⟩
      · have r1 : decide ((P : Int) ≤ (Q : Int)) = false := by rw [decide_eq_false_iff_not]; omega
        have r1n : decide (P ≤ Q) = false := by rw [decide_eq_false_iff_not]; omega
        by_cases hPS : P = s.length
        · have p1 : ((P : Int) == (s.length : Int)) = true := by rw [beq_iff_eq]; omega
          have p1n : (P == s.length) = true := by rw [beq_iff_eq]; omega
          have HPS_ := Lib.hid hPS; clear hPS
          have g7 := G7.out
          have g8 := G8.out
          have e1 : (0 : Int) ≤ (a : Int) := Int.natCast_nonneg a
          clear hordr hsame hle
          go_wp2_with fail
          refine HMP.out.mono ?_
          rintro e w3 ⟨rfl, rfl⟩
          go_wp2_with fail
          refine HMQ.out.mono ?_
          rintro e w3 ⟨rfl, rfl⟩
          go_wp2_with fail
          go_quiet (fail)
          go_wp2_with fail
          go_ret
          exact ⟨rfl, ⟨hb2.os, hb2.tape, hb2.output, hb2.size, hb2.block⟩⟩
        · by_cases hAP : A ≤ P
          · by_cases hPO : P < A + O
            · have p1 : ((P : Int) == (s.length : Int)) = false := by rw [beq_eq_false_iff_ne]; omega
              have p1n : (P == s.length) = false := by rw [beq_eq_false_iff_ne]; omega
              have p2 : decide ((A : Int) ≤ (P : Int)) = true := by rw [decide_eq_true_eq]; omega
              have p2n : decide (A ≤ P) = true := by rw [decide_eq_true_eq]; omega
              have p3 : decide ((P : Int) < (A : Int) + (O : Int)) = true := by rw [decide_eq_true_eq]; omega
              have p3n : decide (P < A + O) = true := by rw [decide_eq_true_eq]; omega
              have HPS_ := Lib.hid hPS; clear hPS
              have g7 := G7.out
              have g8 := G8.out
              have e1 : (0 : Int) ≤ (a : Int) := Int.natCast_nonneg a
              clear hordr hsame hle
              go_wp2_with fail
              refine HMP.out.mono ?_
              rintro e w3 ⟨rfl, rfl⟩
              go_wp2_with fail
              refine HMQ.out.mono ?_
              rintro e w3 ⟨rfl, rfl⟩
              go_wp2_with fail
              go_quiet (fail)
              go_wp2_with fail
              go_ret
              exact ⟨rfl, ⟨hb2.os, hb2.tape, hb2.output, hb2.size, hb2.block⟩⟩
            · have p1 : ((P : Int) == (s.length : Int)) = false := by rw [beq_eq_false_iff_ne]; omega
              have p1n : (P == s.length) = false := by rw [beq_eq_false_iff_ne]; omega
              have p2 : decide ((A : Int) ≤ (P : Int)) = true := by rw [decide_eq_true_eq]; omega
              have p2n : decide (A ≤ P) = true := by rw [decide_eq_true_eq]; omega
              have p3 : decide ((P : Int) < (A : Int) + (O : Int)) = false := by rw [decide_eq_false_iff_not]; omega
              have p3n : decide (P < A + O) = false := by rw [decide_eq_false_iff_not]; omega
              have hPs : P < s.length := by omega
              obtain ⟨ha1, ha2⟩ := hsame hPs (by omega)
              have i1 := sp_at T a (by rw [bstr_size]; exact ha1)
              have i2 := sp_at s P (by rw [bstr_size]; exact hPs)
              rw [ha2] at i1
              generalize s.getD P 0 = y at *
              have p4 : decide ((a : Int) < (T.length : Int)) = true := by rw [decide_eq_true_eq]; omega
              have p4n : decide (a < T.length) = true := by rw [decide_eq_true_eq]; omega
              have p5 : (a : Int) < (T.length : Int) := by omega
              have p6 : (P : Int) < (s.length : Int) := by omega
              have HPS_ := Lib.hid hPS; clear hPS
              have g7 := G7.out
              have g8 := G8.out
              have e1 : (0 : Int) ≤ (a : Int) := Int.natCast_nonneg a
              clear hordr hsame hle
              go_wp2_with fail
              refine HMP.out.mono ?_
              rintro e w3 ⟨rfl, rfl⟩
              go_wp2_with fail
              refine HMQ.out.mono ?_
              rintro e w3 ⟨rfl, rfl⟩
              go_wp2_with fail
              go_quiet (fail)
              go_wp2_with fail
              go_ret
              exact ⟨rfl, ⟨hb2.os, hb2.tape, hb2.output, hb2.size, hb2.block⟩⟩
          · have p1 : ((P : Int) == (s.length : Int)) = false := by rw [beq_eq_false_iff_ne]; omega
            have p1n : (P == s.length) = false := by rw [beq_eq_false_iff_ne]; omega
            have p2 : decide ((A : Int) ≤ (P : Int)) = false := by rw [decide_eq_false_iff_not]; omega
            have p2n : decide (A ≤ P) = false := by rw [decide_eq_false_iff_not]; omega
            have hPs : P < s.length := by omega
            obtain ⟨ha1, ha2⟩ := hsame hPs (by omega)
            have i1 := sp_at T a (by rw [bstr_size]; exact ha1)
            have i2 := sp_at s P (by rw [bstr_size]; exact hPs)
            rw [ha2] at i1
            generalize s.getD P 0 = y at *
            have p4 : decide ((a : Int) < (T.length : Int)) = true := by rw [decide_eq_true_eq]; omega
            have p4n : decide (a < T.length) = true := by rw [decide_eq_true_eq]; omega
            have p5 : (a : Int) < (T.length : Int) := by omega
            have p6 : (P : Int) < (s.length : Int) := by omega
            have HPS_ := Lib.hid hPS; clear hPS
            have g7 := G7.out
            have g8 := G8.out
            have e1 : (0 : Int) ≤ (a : Int) := Int.natCast_nonneg a
            clear hordr hsame hle
            go_wp2_with fail
            refine HMP.out.mono ?_
            rintro e w3 ⟨rfl, rfl⟩
            go_wp2_with fail
            refine HMQ.out.mono ?_
            rintro e w3 ⟨rfl, rfl⟩
            go_wp2_with fail
            go_quiet (fail)
            go_wp2_with fail
            go_ret
            exact ⟨rfl, ⟨hb2.os, hb2.tape, hb2.output, hb2.size, hb2.block⟩⟩
theorem SpansFollow_walk (s : ByteArray) (at_ out : Int) (i : ByteArray) (p q : Int) (hs : s.size ≤ 140737488351232) (h1 : -9223372036854775808 ≤ at_) (h1' : at_ ≤ 9223372036854775807) (h2 : -9223372036854775808 ≤ out) (h2' : out ≤ 9223372036854775807) (hi : i.size ≤ 140737488351232) (h3 : -9223372036854775808 ≤ p) (h3' : p ≤ 9223372036854775807) (h4 : -9223372036854775808 ≤ q) (h4' : q ≤ 9223372036854775807) (w : World) :
    Calls Try.prog 4 #[.string s, .int .i64 at_, .int .i64 out, .string i, .int .i64 p, .int .i64 q] w fun e w' => e = .returned (.bool true) ∧ Below w.heap.size w w' := by
  have h := SpansFollow_l s.data.toList i.data.toList at_ out p q (by rw [Array.length_toList]; exact hs) (by rw [Array.length_toList]; exact hi) w
  rw [← eq_bstr, ← eq_bstr] at h
  exact h
end Go.Proofs.Ytnldobfafaajjaa
