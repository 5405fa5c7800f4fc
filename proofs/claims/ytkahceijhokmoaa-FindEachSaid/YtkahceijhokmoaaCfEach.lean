/- Contracts of slices.IndexFunc and slices.ContainsFunc at []string, for one function that asks a string. -/
import Derived.Test.YtkahceijhokmoaaChecked
import Derived.Test.YtkahceijhokmoaaOwn
namespace Go.Proofs.Ytkahceijhokmoaa
open Go.RowKit
set_option linter.unusedVariables false
set_option linter.unusedSimpArgs false
namespace CfEach
def p (sk : ByteArray) : Bool := (sk.toList.isEmpty || decide ((30 : Int) < (sk.size : Int)))
theorem asked (sk : ByteArray) (w : World) (hs : sk.size ≤ maxLen) : Calls Try.prog 6 #[.string sk] w fun e w' => e = .returned (.bool (p sk)) ∧ w = w' := by
  unfold maxLen at hs
  unfold p
  go_enter Try.func6, Try.ntmps6
  generalize hb : sk.toList.isEmpty = b
  cases b with
  | true =>
    go_wp2_with fail
    go_ret
    exact ⟨rfl, rfl⟩
  | false =>
    go_wp2_with fail
    go_ret
    exact ⟨rfl, rfl⟩
def Found (ss : List ByteArray) (w : World) (e : Ending) (w' : World) : Prop := ∃ r : Int, e = .returned (.int .i64 r) ∧ w = w' ∧ -1 ≤ r ∧ r ≤ 140737488351232 ∧ decide (0 ≤ r) = ss.any p
set_option maxRecDepth 100000 in
theorem index (a : Option Addr) (n c : Nat) (ss : List ByteArray) (w : World) (h : IsStrs w a n c ss) :
    Calls Try.prog 14 #[.slice a n c, .func (.func 6) #[] #[]] w (Found (ss.take n) w) := by
  have hlen := h.len
  have HH := Lib.hid h; clear h
  have hn9 : n ≤ 140737488351232 := by omega
  go_enter Try.func14, Try.ntmps14
  go_wp2_with fail
  go_loop [8] (fun i => ∃ k : Nat, k ≤ n ∧ i = .int .i64 k ∧ Hid ((ss.take k).any p = false)) (fun i => n - (intOf i).toNat)
  case atStart => exact ⟨0, by omega, rfl, Lib.hid (by simp)⟩
  case round =>
    obtain ⟨k, hk, rfl, HQ⟩ := hrel
    by_cases hlt : k < n
    · obtain ⟨x, rfl, hx, hcell, hsz⟩ := HH.out.cell k hlt
      have hps := fun w => asked (ss.getD k ByteArray.empty) w hsz
      have htk : (ss.take (k + 1)).any p = ((ss.take k).any p || p (ss.getD k ByteArray.empty)) := by
        rw [List.take_succ_eq_append_getElem (by omega), List.any_append, List.getD_eq_getElem?_getD, List.getElem?_eq_getElem (by omega)]
        simp
      generalize ss.getD k ByteArray.empty = sk at *
      have htk := htk
      rw [HQ.out, Bool.false_or] at htk
      have HT := Lib.hid htk; clear htk
      have HPS := Lib.hid hps; clear hps
      have hki : (k : Int) < (n : Int) := by omega
      generalize p sk = b at *
      go_wp2_with fail
      refine (HPS.out _).mono ?_
      rintro e w1 ⟨rfl, rfl⟩
      cases b with
      | true =>
        go_wp2_with fail
        go_ret
        refine ⟨k, rfl, rfl, by omega, by omega, ?_⟩
        rw [decide_eq_true (by omega)]
        symm
        rw [List.any_eq_true]
        obtain ⟨y, hy, hpy⟩ := List.any_eq_true.1 HT.out
        refine ⟨y, ?_, hpy⟩
        have : (ss.take n).take (k + 1) = ss.take (k + 1) := by rw [List.take_take, Nat.min_eq_left (by omega)]
        rw [← this] at hy
        exact List.mem_of_mem_take hy
      | false =>
        go_wp2_with fail
        go_round
        case rel => exact ⟨k + 1, by omega, by go_num, HT⟩
        case measure => simp [intOf]; omega
    · obtain rfl : k = n := by omega
      have hd : decide ((k : Int) < (k : Int)) = false := by simp
      go_wp2_with fail
      go_ret
      exact ⟨-1, rfl, rfl, by omega, by omega, by rw [HQ.out]; rfl⟩
set_option maxRecDepth 100000 in
theorem contains (a : Option Addr) (n c : Nat) (ss : List ByteArray) (w : World) (h : IsStrs w a n c ss) :
    Calls Try.prog 5 #[.slice a n c, .func (.func 6) #[] #[]] w fun e w' => e = .returned (.bool ((ss.take n).any p)) ∧ w = w' := by
  have HI := Lib.hid (index a n c ss w h)
  clear h
  generalize ss.take n = l at *
  go_enter Try.func5, Try.ntmps5
  go_wp2_with fail
  refine HI.out.mono ?_
  rintro e w1 ⟨r, rfl, rfl, h1, h2, h3⟩
  obtain ⟨b, hb⟩ : ∃ b, b = l.any p := ⟨_, rfl⟩
  rw [← hb] at h3
  have HB := Lib.hid hb; clear hb
  go_wp2_with fail
  go_ret
  exact ⟨ret_bool HB.out, rfl⟩
end CfEach
end Go.Proofs.Ytkahceijhokmoaa
