/- The law LzRuns: the walk . -/
import Derived.Test.YtnldobfafaajjaaLzF0
import Derived.Test.YtnldobfafaajjaaPlainLz4
import Derived.Test.YtnldobfafaajjaaPick
import Derived.Test.YtnldobfafaajjaaShelf
namespace Go.Proofs.Ytnldobfafaajjaa
open Go.RowKit Go.Maps
set_option linter.unusedVariables false
set_option linter.unusedSimpArgs false
theorem repeatL_flat (l : List UInt8) (n : Nat) : Lib.repeatL l n = (List.replicate n l).flatten := by
  induction n with
  | zero => rfl
  | succ n ih => rw [List.replicate_succ, List.flatten_cons, ← ih]; rfl
set_option maxRecDepth 100000 in
theorem LzRuns_walk (s : ByteArray) (n : Int) (hs : s.size ≤ 140737488351232) (hn0 : -9223372036854775808 ≤ n) (hn1 : n ≤ 9223372036854775807) (w : World) :
    Calls Try.prog 3 #[.string s, .int .i64 n] w fun e w' => e = .returned (.bool true) ∧ Below w.heap.size w w' := by
  obtain ⟨l, hl⟩ : ∃ l : List UInt8, s = bstr l := ⟨_, eq_bstr s⟩
  subst hl
  rw [bstr_size] at hs
  by_cases h0 : l = []
  · subst h0
    go_enter Try.func3, Try.ntmps3
    go_wp2_with fail
    refine (packed_any _).mono ?_
    rintro e w1 ⟨rfl, hb1⟩
    go_wp2_with fail
    go_ret
    exact ⟨rfl, hb1⟩
  · have hpos : 1 ≤ l.length := by cases l with
      | nil => exact absurd rfl h0
      | cons _ _ => simp
    have hemp : l.isEmpty = false := by cases l with
      | nil => exact absurd rfl h0
      | cons _ _ => rfl
    clear h0
    by_cases h1 : 100 < l.length
    · have hd : decide ((100 : Int) < (l.length : Int)) = true := by rw [decide_eq_true_eq]; omega
      go_enter Try.func3, Try.ntmps3
      go_wp2_with fail
      refine (packed_any _).mono ?_
      rintro e w1 ⟨rfl, hb1⟩
      go_wp2_with fail
      go_ret
      exact ⟨rfl, hb1⟩
    · have hd : decide ((100 : Int) < (l.length : Int)) = false := by rw [decide_eq_false_iff_not]; omega
      have pn := fun w => pick_at n 30 30 w rfl (by decide) (by decide)
      have hN := pickN_lt n 30 (by decide)
      generalize pickN n 30 = N at *
      have hrep : ∀ w, Calls Try.prog 11 #[.string (bstr l), .int .i64 (1 + (N : Int))] w fun e w' => e = .returned (.string (bstr (List.replicate (N + 1) l).flatten)) ∧ Below w.heap.size w w' := fun w => by
        have := Try.strings_Repeat (bstr l) (N + 1) w (by omega) (by rw [bstr_size]; have : l.length * (N + 1) ≤ 100 * 30 := Nat.mul_le_mul (by omega) (by omega); omega)
        rw [show ((N + 1 : Nat) : Int) = 1 + (N : Int) by omega, bstr_data, repeatL_flat] at this
        exact this
      have hfl : (List.replicate (N + 1) l).flatten.length = (N + 1) * l.length := by simp
      have hmul : (N + 1) * l.length ≤ 30 * 100 := Nat.mul_le_mul (by omega) (by omega)
      have hmul2 : (N + 1) * l.length = N * l.length + l.length := Nat.succ_mul _ _
      have hP := fun w => Pack_any (List.replicate (N + 1) l).flatten w (by omega)
      have hcost := fun toks pl h => Lz.runs_cost (toks := toks) (pl := pl) (Lz.period_flat l (N + 1)) hpos (by omega) (by omega) h
      rw [hfl] at hcost
      have HC := Lib.hid hcost; clear hcost
      have PN := Lib.hid pn; clear pn
      have HR := Lib.hid hrep; clear hrep
      have HP := Lib.hid hP; clear hP
      have hm9 : (1 + (N : Int) - 1) * (l.length : Int) = ((N * l.length : Nat) : Int) := by rw [show (1 + (N : Int) - 1) = N by omega]; simp
      have HM9 := Lib.hid hm9; clear hm9
      generalize N * l.length = M at *
      go_enter Try.func3, Try.ntmps3
      go_wp2_with fail
      refine (packed_any _).mono ?_
      rintro e w1 ⟨rfl, hb1⟩
      go_wp2_with fail
      refine (PN.out _).mono ?_
      rintro e w2 ⟨rfl, rfl⟩
      go_wp2_with fail
      refine (HR.out _).mono ?_
      rintro e w2 ⟨rfl, hb2⟩
      go_wp2_with fail
      refine (HP.out _).mono ?_
      intro e w3 h3
      obtain ⟨toks, pl, hr, rfl, hb3⟩ := h3
      have hc := HC.out toks pl (by rw [← hfl]; exact hr)
      clear hr
      generalize Lz.bytes (Lz.flushed toks pl) = by_ at *
      go_wp2_with fail
      go_ret
      refine ⟨ret_bool ?_, ?_⟩
      · have wr : ∀ x : Int, -9223372036854775808 ≤ x → x ≤ 9223372036854775807 → wrap64 x = x := fun x h1 h2 => IntWalk.wrap64_in _ ⟨h1, h2⟩
        rw [HM9.out, decide_eq_true_eq, wr (M : Int) (by omega) (by omega), Int.tdiv_eq_ediv_of_nonneg (by omega), wr ((M : Int) / 130) (by omega) (by omega), wr ((M : Int) / 130 + 2) (by omega) (by omega), wr (3 * ((M : Int) / 130 + 2)) (by omega) (by omega), wr _ (by omega) (by omega)]
        omega
      · exact (hb1.trans (hb2.mono hb1.size)).trans (hb3.mono (Nat.le_trans hb1.size hb2.size))
end Go.Proofs.Ytnldobfafaajjaa
