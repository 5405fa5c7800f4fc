/- Contracts of slices.Index and slices.Contains at []string, for the empty text where none is empty. -/
import Derived.Test.YtkahceijhokmoaaAhoG
namespace Go.Proofs.Ytkahceijhokmoaa
open Go.RowKit
set_option linter.unusedVariables false
set_option linter.unusedSimpArgs false
set_option maxRecDepth 100000 in
theorem IndexS_none (a : Option Addr) (m c : Nat) (ps : List Aho.Wd) (w : World) (hm : m ≤ 4611686018427387904) (h : PsAt w a m ps) (hne : ∀ p ∈ ps, p ≠ []) :
    Calls Try.prog 21 #[.slice a m c, .string { data := #[] }] w fun e w' => e = .returned (.int .i64 (-1)) ∧ w = w' := by
  have HH := Lib.hid h; have HNE := Lib.hid hne; clear h hne
  go_enter Try.func21, Try.ntmps21
  go_wp2_with fail
  go_loop [8] (fun i => ∃ k : Nat, k ≤ m ∧ i = .int .i64 k) (fun i => m - (intOf i).toNat)
  case atStart => exact ⟨0, by omega, rfl⟩
  case round =>
    obtain ⟨k, hk, rfl⟩ := hrel
    by_cases hlt : k < m
    · obtain ⟨⟨blk, off, vw⟩, rfl, hx, hcell⟩ := HH.out.2 k hlt
      have hki : (k : Int) < (m : Int) := by omega
      have hn2 : ps.getD k [] ≠ [] := by
        have hk2 : k < ps.length := by rw [HH.out.1]; exact hlt
        rw [List.getD_eq_getElem?_getD, List.getElem?_eq_getElem hk2]
        exact HNE.out _ (List.getElem_mem hk2)
      generalize ps.getD k [] = p at *
      have hb : List.isEmpty p = false := by
        cases p with
        | nil => exact absurd rfl hn2
        | cons c l => rfl
      clear hn2 hx
      go_wp2_with fail
      go_round
      case rel => exact ⟨k + 1, by omega, by go_num⟩
      case measure => simp [intOf]; omega
    · obtain rfl : k = m := by omega
      have hd : decide ((k : Int) < (k : Int)) = false := by simp
      go_wp2_with fail
      go_ret
      exact ⟨rfl, rfl⟩
theorem ContainsS_none (a : Option Addr) (m c : Nat) (ps : List Aho.Wd) (w : World) (hm : m ≤ 4611686018427387904) (h : PsAt w a m ps) (hne : ∀ p ∈ ps, p ≠ []) :
    Calls Try.prog 15 #[.slice a m c, .string { data := #[] }] w fun e w' => e = .returned (.bool false) ∧ w = w' := by
  go_enter Try.func15, Try.ntmps15
  go_wp2_with fail
  refine (IndexS_none a m c ps _ hm h hne).mono ?_
  rintro e w1 ⟨rfl, rfl⟩
  clear h hne
  go_wp2_with fail
  go_ret
  exact ⟨rfl, rfl⟩
end Go.Proofs.Ytkahceijhokmoaa
