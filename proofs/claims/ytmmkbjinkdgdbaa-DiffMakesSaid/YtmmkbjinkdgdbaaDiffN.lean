/- The word near: texts are few bytes. -/
import Derived.Test.YtmmkbjinkdgdbaaChecked
import Derived.Test.YtmmkbjinkdgdbaaOwn
namespace Go.Proofs.Ytmmkbjinkdgdbaa
open Go.RowKit
set_option linter.unusedVariables false
set_option linter.unusedSimpArgs false
namespace Diff
def all (ls : List (List UInt8)) : Nat := (ls.map List.length).sum
theorem all_take (ls : List (List UInt8)) (k : Nat) (h : k < ls.length) : all (ls.take (k + 1)) = all (ls.take k) + (ls.getD k []).length := by
  have e : ls.getD k [] = ls[k] := by rw [List.getD_eq_getElem?_getD, List.getElem?_eq_getElem h]; rfl
  rw [e, List.take_succ_eq_append_getElem h]
  simp only [all, List.map_append, List.sum_append, List.map_cons, List.map_nil, List.sum_cons, List.sum_nil, Nat.add_zero]
theorem all_le (ls : List (List UInt8)) (k : Nat) : all (ls.take k) ≤ all ls := by
  conv => rhs; rw [← List.take_append_drop k ls]
  simp only [all, List.map_append, List.sum_append]
  omega
end Diff
set_option maxRecDepth 100000 in
theorem near_any (ls : List (List UInt8)) (w : World) (B cap : Nat) (h : RowAt w B 0 9 (ls.map fun l => Value.string (bstr l))) (hs : Diff.all ls ≤ 1000000000000000000) (hc : ls.length ≤ cap) (hn : ls.length ≤ 1000) :
    Calls Try.prog 50 #[.slice (some ⟨B, 0, none⟩) ls.length cap] w fun e w' => e = .returned (.bool (decide (Diff.all ls ≤ 300))) ∧ w = w' := by
  have hcell : ∀ (k : Nat) (hk : k < ls.length), w.cell? ⟨B, k, none⟩ = some (.string (bstr (ls.getD k []))) := by
    intro k hk
    rw [h.cell0 k (by simpa using hk), List.getD_eq_getElem?_getD, List.getElem?_eq_getElem hk]
    simp
  have hfin : decide ((Diff.all ls : Int) ≤ 300) = decide (Diff.all ls ≤ 300) := by
    rw [decide_eq_decide]; omega
  have HF := Lib.hid hfin; clear hfin
  have hT := Diff.all_take ls
  have hL := Diff.all_le ls
  have HH := Lib.hid (And.intro hcell (And.intro hT hL)); clear hcell hT hL h
  generalize hN : ls.length = N at *
  have HN := Lib.hid hN; clear hN
  go_enter Try.func50, Try.ntmps50
  go_wp2_with fail
  go_loop [3, 4] (fun n i => ∃ k s : Nat, k ≤ N ∧ i = .int .i64 k ∧ n = .int .i64 s ∧ Hid (s = Diff.all (ls.take k))) (fun n i => N - (intOf i).toNat)
  case atStart => exact ⟨0, 0, by omega, rfl, rfl, Lib.hid (by simp [Diff.all])⟩
  case round =>
    obtain ⟨k, s, hk, rfl, rfl, HS⟩ := hrel
    by_cases hlt : k < N
    · have hcell := HH.out.1 k hlt
      have hstep := HH.out.2.1 k hlt
      have hle := HH.out.2.2 (k + 1)
      generalize ls.getD k [] = x at *
      have hlt1 : decide ((k : Int) < (N : Int)) = true := by rw [decide_eq_true_eq]; omega
      have hlt2 : decide (k < N) = true := by rw [decide_eq_true_eq]; omega
      have hsx : s + x.length ≤ 1000000000000000000 := by rw [HS.out]; omega
      have hk1 : (k : Int) < N := by omega
      have HST : Hid (s + x.length = Diff.all (ls.take (k + 1))) := Lib.hid (by rw [hstep, HS.out])
      clear hstep hle
      go_wp2_with fail
      go_round
      case rel => exact ⟨k + 1, s + x.length, by omega, rfl, rfl, HST⟩
      case measure => simp [intOf]; omega
    · have hkN : k = N := by omega
      subst hkN
      have hlt1 : decide ((k : Int) < (k : Int)) = false := by rw [decide_eq_false_iff_not]; omega
      have hs2 : s = Diff.all ls := by rw [HS.out, ← HN.out, List.take_length]
      have HS2 := Lib.hid hs2; clear hs2
      go_wp2_with fail
      go_ret
      refine ⟨?_, rfl⟩
      rw [← HF.out, ← HS2.out]
      rfl
end Go.Proofs.Ytmmkbjinkdgdbaa
