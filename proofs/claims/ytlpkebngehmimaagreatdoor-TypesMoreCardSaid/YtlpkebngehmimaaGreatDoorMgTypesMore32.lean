/- slices.Contains at []string: names in a row. -/
import Derived.Test.YtlpkebngehmimaaGreatDoorMgTypesMore30
import Derived.Test.YtlpkebngehmimaaGreatDoorMgTypesMore31
section
/- slices.Contains at []string: names in a row. -/
namespace Go.Proofs.YtlpkebngehmimaaGreatDoor
open Go.RowKit
set_option linter.unusedVariables false
set_option linter.unusedSimpArgs false
/-- names as a row -/
def wdVals (L : List Tm.Wd) : List Value := L.map fun x => .string (bstr x)
theorem wdVals_snoc (L : List Tm.Wd) (x : Tm.Wd) : wdVals (L ++ [x]) = wdVals L ++ [.string (bstr x)] := by simp [wdVals]
theorem wdVals_len (L : List Tm.Wd) : (wdVals L).length = L.length := by simp [wdVals]
theorem wdVals_take (L : List Tm.Wd) (n : Nat) : (wdVals L).take n = wdVals (L.take n) := by simp [wdVals, List.map_take]
/-- a slice that reads as names -/
def ReadsW (w : World) (a : Option Addr) (L : List Tm.Wd) : Prop := ∀ k, k < L.length → ∃ g, a = some ⟨g, 0, none⟩ ∧ w.cell? ⟨g, k, none⟩ = some (.string (bstr (L.getD k [])))
theorem Owns.readsW {w : World} {B n cap : Nat} {e : TypeId} {a : Option Addr} {L : List Tm.Wd} (h : Owns w B e 1 a n cap (wdVals L)) : ReadsW w a L := by
  intro k hk
  cases a with
  | none => have := h.of_none.2.2; simp [wdVals] at this; rw [this] at hk; simp at hk
  | some x =>
    obtain ⟨h1, _, _, _, h5⟩ := h.row
    refine ⟨x.block, congrArg some h1, ?_⟩
    rw [h5.cell0 k (by rw [wdVals_len]; exact hk)]
    simp only [wdVals, List.getElem_map, Option.some.injEq]
    rw [List.getD_eq_getElem?_getD, List.getElem?_eq_getElem hk]
    rfl
set_option maxRecDepth 100000 in
theorem IndexW (a : Option Addr) (n c : Nat) (L : List Tm.Wd) (v : Tm.Wd) (w : World) (hn : L.length = n) (hn2 : n ≤ 100000) (h : ReadsW w a L) :
    Calls Tryz.prog 107 #[.slice a n c, .string (bstr v)] w fun e w' => (∃ r : Int, e = .returned (.int .i64 r) ∧ decide (0 ≤ r) = decide (v ∈ L)) ∧ w = w' := by
  have HH := Lib.hid h; have HN := Lib.hid hn
  clear h hn
  go_enter Tryz.func107, Tryz.ntmps107
  go_wp2_with fail
  go_loop [8] (fun i => ∃ k : Nat, k ≤ n ∧ i = .int .i64 k ∧ Hid ((L.take k).contains v = false)) (fun i => n - (intOf i).toNat)
  case atStart => exact ⟨0, by omega, rfl, Lib.hid (by simp)⟩
  case round =>
    obtain ⟨k, hk, rfl, HQ⟩ := hrel
    by_cases hlt : k < n
    · obtain ⟨g, rfl, hcell⟩ := HH.out k (by rw [HN.out]; exact hlt)
      have hki : (k : Int) < (n : Int) := by omega
      have htk : (L.take (k + 1)).contains v = ((L.take k).contains v || (v == L.getD k [])) := by
        rw [List.take_succ_eq_append_getElem (by rw [HN.out]; exact hlt), List.contains_eq_any_beq, List.contains_eq_any_beq, List.any_append, List.getD_eq_getElem?_getD, List.getElem?_eq_getElem (by rw [HN.out]; exact hlt)]
        simp
      have hin : L.getD k [] ∈ L := by
        rw [List.getD_eq_getElem?_getD, List.getElem?_eq_getElem (by rw [HN.out]; exact hlt)]
        exact List.getElem_mem _
      generalize L.getD k [] = s at *
      have HTK := Lib.hid htk; have HIN := Lib.hid hin
      clear htk hin
      by_cases he : v = s
      · have HE := Lib.hid he
        have q1 : (v == s) = true := by rw [beq_iff_eq]; exact he
        have q2 : (s == v) = true := by rw [beq_iff_eq]; exact he.symm
        clear he
        go_wp2_with fail
        go_ret
        refine ⟨⟨(k : Int), rfl, ?_⟩, rfl⟩
        try rw [decide_eq_decide]
        exact ⟨fun _ => by rw [HE.out]; exact HIN.out, fun _ => by omega⟩
      · have q1 : (v == s) = false := by rw [beq_eq_false_iff_ne]; exact he
        have q2 : (s == v) = false := by rw [beq_eq_false_iff_ne]; exact fun e => he e.symm
        have HQ2 : Hid ((L.take (k + 1)).contains v = false) := Lib.hid (by rw [HTK.out, HQ.out, q1]; rfl)
        clear he
        go_wp2_with fail
        go_round
        case rel => exact ⟨k + 1, by omega, by go_num, HQ2⟩
        case measure => simp [intOf]; omega
    · obtain rfl : k = n := by omega
      have hd : decide ((k : Int) < (k : Int)) = false := by simp
      go_wp2_with fail
      go_ret
      refine ⟨⟨-1, rfl, ?_⟩, rfl⟩
      have := HQ.out
      rw [← HN.out, List.take_length] at this
      try rw [decide_eq_decide]
      refine ⟨fun h => by omega, fun hm => ?_⟩
      rw [← List.contains_iff_mem, this] at hm
      cases hm
theorem ContainsW (a : Option Addr) (n c : Nat) (L : List Tm.Wd) (v : Tm.Wd) (w : World) (hn : L.length = n) (hn2 : n ≤ 100000) (h : ReadsW w a L) :
    Calls Tryz.prog 85 #[.slice a n c, .string (bstr v)] w fun e w' => e = .returned (.bool (decide (v ∈ L))) ∧ w = w' := by
  have HI := Lib.hid (IndexW a n c L v w hn hn2 h)
  clear h hn
  go_enter Tryz.func85, Tryz.ntmps85
  go_wp2_with fail
  refine HI.out.mono ?_
  rintro e w1 ⟨⟨r, rfl, hr⟩, rfl⟩
  go_wp2_with fail
  go_ret
  exact ⟨rfl, rfl⟩
end Go.Proofs.YtlpkebngehmimaaGreatDoor
end
