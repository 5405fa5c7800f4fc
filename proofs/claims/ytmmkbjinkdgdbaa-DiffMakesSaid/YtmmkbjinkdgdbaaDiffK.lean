/- The law DiffMakes. -/
import Derived.Test.YtmmkbjinkdgdbaaDiffJ
import Derived.Test.YtmmkbjinkdgdbaaDiffG
namespace Go.Proofs.Ytmmkbjinkdgdbaa
open Go.RowKit
set_option linter.unusedVariables false
set_option linter.unusedSimpArgs false
namespace Diff
theorem cost_take (l : List Ed) (k : Nat) (h : k < l.length) : cost (l.take (k + 1)) = cost (l.take k) + costE l[k] := by
  rw [List.take_succ_eq_append_getElem h, cost_append]
  simp [cost]
theorem cost_le (l : List Ed) (k : Nat) : cost (l.take k) ≤ cost l := by
  conv => rhs; rw [← List.take_append_drop k l]
  rw [cost_append]; omega
end Diff
set_option maxRecDepth 100000 in
set_option maxHeartbeats 2000000 in
theorem DiffMakes_l (a b : List UInt8) (ha : a.length ≤ 140737488351232) (hb : b.length ≤ 140737488351232) (w : World) :
    Calls Try.prog 14 #[.string (bstr a), .string (bstr b)] w fun e w' => e = .returned (.bool true) ∧ Below w.heap.size w w' := by
  have hall : Diff.all [a, b] = a.length + b.length := by simp [Diff.all]
  have hsum : Diff.all [a, b] ≤ 1000000000000000000 := by omega
  go_enter Try.func14, Try.ntmps14
  go_wp2_with fail
  refine (differed_any _).mono ?_
  rintro e w1 ⟨rfl, hb1⟩
  go_wp2_with fail
  have hrow := RowAt.new w1 9 #[.string (bstr a), .string (bstr b)]
  have hb2 := hb1.alloc hb1.size (.cells #[.string (bstr a), .string (bstr b)] 9)
  generalize w1.alloc (.cells #[.string (bstr a), .string (bstr b)] 9) = w2 at *
  generalize w1.heap.size = B at *
  refine (near_any [a, b] w2 B 2 hrow hsum (by simp) (by simp)).mono ?_
  rintro e w3 ⟨rfl, rfl⟩
  rw [hall]
  by_cases hs : a.length + b.length ≤ 300
  · have hd : decide (a.length + b.length ≤ 300) = true := decide_eq_true hs
    rw [hd]
    clear hall hsum hrow hd
    have HFin := Lib.hid (Diff.edits_fine a b)
    have HCost := Lib.hid (Diff.edits_cost a b)
    have hE := fun w => Edits_any a b w (by omega)
    have hL : ∀ d, Diff.Least a b d → Diff.cost (Diff.edits a b) = d := fun d h => Diff.edits_least h
    generalize Diff.edits a b = l at *
    have HL := Lib.hid hL; clear hL
    have HE := Lib.hid hE; clear hE
    go_wp2_with fail
    refine (HE.out _).mono ?_
    rintro e w3 ⟨x, n, cap, rfl, hn, hn4, ho3, hf3, hb3⟩
    have hlo3 := ho3.blk_lt
    have HO3 := Lib.hid ho3; clear ho3
    have HF3 := Lib.hid hf3; clear hf3
    have HLO := Lib.hid hlo3; clear hlo3
    have HN := Lib.hid hn.symm; clear hn
    go_wp2_with fail
    refine (Apply_ok x n cap _ l a w3 HO3.out HN.out hn4 HFin.out.1 HFin.out.2.1 (by omega) (by rw [HFin.out.2.2]; omega)).mono ?_
    rintro e w4 ⟨rfl, hb4⟩
    rw [HFin.out.2.2]
    have HO4 := Lib.hid (HO3.out.belowLt hb4 HLO.out)
    have HLO4 := Lib.hid HO4.out.blk_lt
    go_wp2_with fail
    refine (Back_ok x n cap _ l a w4 HO4.out HN.out hn4 HFin.out.1 HFin.out.2.1 (by omega) (by rw [HFin.out.2.2]; omega) (fun f h => (HF3.out f h).2)).mono ?_
    rintro e w5 ⟨y, m, c, rfl, hmn, ho5, hb5⟩
    obtain rfl := hmn
    have HBk := Lib.hid (Diff.backL_fine l a HFin.out.1 HFin.out.2.1)
    generalize Diff.backL a l = k at *
    have HO5 := Lib.hid ho5; clear ho5
    have HO6 := Lib.hid (HO4.out.belowLt hb5 HLO4.out)
    have HLO6 := Lib.hid HO6.out.blk_lt
    go_wp2_with fail
    refine (Apply_ok y m c _ k b w5 HO5.out (by rw [HBk.out.2.2.2]; exact HN.out) hn4 HBk.out.1 (by rw [HBk.out.2.1, HFin.out.2.2]) (by omega) (by have := HBk.out.2.2.1; rw [HFin.out.2.2] at this; rw [this]; omega)).mono ?_
    rintro e w6 ⟨rfl, hb6⟩
    have hrk : Diff.run b k = a := by have := HBk.out.2.2.1; rw [HFin.out.2.2] at this; exact this
    rw [hrk]
    clear hrk
    have HO7 := Lib.hid (HO6.out.belowLt hb6 HLO6.out)
    have HLO7 := Lib.hid HO7.out.blk_lt
    go_wp2_with fail
    refine (Far_any a b w6 (by omega)).mono ?_
    rintro e w7 ⟨⟨d, rfl, hd⟩, hb7⟩
    have hcd := HL.out d hd
    clear hd
    have HO8 := Lib.hid (HO7.out.belowLt hb7 HLO7.out)
    clear HE HO3 HO4 HO5 HO6 HO7 HLO HLO4 HLO6 HLO7
    have hcm : d ≤ 300 := by have := HCost.out; omega
    have HCD := Lib.hid hcd; clear hcd
    have q3 := hb2.trans (hb3.mono hb2.size)
    have q4 := q3.trans (hb4.mono q3.size)
    have q5 := q4.trans (hb5.mono q4.size)
    have q6 := q5.trans (hb6.mono q5.size)
    have q7 := q6.trans (hb7.mono q6.size)
    clear q3 q4 q5 q6 hb1 hb2 hb3 hb4 hb5 hb6 hb7
    go_wp2_with fail
    go_loop [15, 16] (fun v15 v16 => ∃ k s : Nat, k ≤ m ∧ v16 = .int .i64 k ∧ v15 = .int .i64 s ∧ Hid (s = Diff.cost (l.take k)) ∧ s ≤ 300) (fun _ v16 => m - (intOf v16).toNat)
    case atStart => exact ⟨0, 0, by omega, rfl, rfl, Lib.hid (by simp [Diff.cost]), by omega⟩
    case round =>
      obtain ⟨j, s, hj, rfl, rfl, HS, hs3⟩ := hrel
      by_cases hjm : j < m
      · cases x with
        | none => exfalso; have := HO8.out.of_none; omega
        | some x =>
          obtain ⟨e1, e2, e3, e4, e5⟩ := HO8.out.row
          rw [e1]
          clear e1 e2 e4
          generalize x.block = gl at *
          have hdr : l.drop j = l[j]'(by rw [HN.out]; exact hjm) :: l.drop (j + 1) := List.drop_eq_getElem_cons (by rw [HN.out]; exact hjm)
          have hct := Diff.cost_take l j (by rw [HN.out]; exact hjm)
          have hcl := Diff.cost_le l (j + 1)
          have hsplit : Diff.edsCells l = Diff.edsCells (l.take j) ++ (Diff.edCells (l[j]'(by rw [HN.out]; exact hjm)) ++ Diff.edsCells (l.drop (j + 1))) := by
            conv => lhs; rw [← List.take_append_drop j l, hdr]
            rw [Diff.edsCells_append]
            rfl
          have htl : (Diff.edsCells (l.take j)).length = j * 3 := by rw [Diff.edsCells_length, List.length_take, HN.out]; congr 1; omega
          rw [hsplit] at e5
          clear hsplit hdr
          generalize l[j]'(by rw [HN.out]; exact hjm) = e at *
          have hlen : 3 ≤ (Diff.edCells e ++ Diff.edsCells (l.drop (j + 1))).length := by simp [Diff.edCells]
          have c0 := e5.cell0 (j * 3) (by rw [List.length_append]; omega)
          have c1 := e5.cell0 (j * 3 + 1) (by rw [List.length_append]; omega)
          have c2 := e5.cell0 (j * 3 + 2) (by rw [List.length_append]; omega)
          rw [List.getElem_append_right (by omega), List.getElem_append_left (by simp [Diff.edCells]; omega)] at c0 c1 c2
          simp only [htl, Nat.sub_self, Nat.add_sub_cancel_left, Diff.edCells, List.getElem_cons_zero, List.getElem_cons_succ] at c0 c1 c2
          clear e5 htl hlen
          have hjI : (j : Int) < (m : Int) := by omega
          have hjb : decide ((j : Int) < (m : Int)) = true := decide_eq_true hjI
          rw [← HS.out] at hct
          have hcD := HCD.out
          by_cases hw : e.what = 2
          · have hwI : ((e.what : Int) == 2) = true := by rw [beq_iff_eq]; omega
            have hce : Diff.costE e = e.text.length + e.n := by unfold Diff.costE; rw [if_pos hw]
            have HCT : Hid (s + e.text.length + e.n = Diff.cost (l.take (j + 1))) := Lib.hid (by omega)
            have hbd : s + e.text.length + e.n ≤ 300 := by omega
            clear hct hcl hce hcD
            have HW := Lib.hid hw; clear hw
            go_wp2_with fail
            go_round
            case rel => exact ⟨j + 1, s + e.text.length + e.n, by omega, rfl, rfl, HCT, hbd⟩
            case measure => simp [intOf]; omega
          · have hwI : ((e.what : Int) == 2) = false := by rw [beq_eq_false_iff_ne]; omega
            have hce : Diff.costE e = e.text.length := by unfold Diff.costE; rw [if_neg hw]; rfl
            have HCT : Hid (s + e.text.length = Diff.cost (l.take (j + 1))) := Lib.hid (by omega)
            have hbd : s + e.text.length ≤ 300 := by omega
            clear hct hcl hce hcD
            have HW := Lib.hid hw; clear hw
            go_wp2_with fail
            go_round
            case rel => exact ⟨j + 1, s + e.text.length, by omega, rfl, rfl, HCT, hbd⟩
            case measure => simp [intOf]; omega
      · obtain rfl : j = m := by omega
        have hd : decide ((j : Int) < (j : Int)) = false := by simp
        have hfin := HS.out
        rw [List.take_of_length_le (by rw [HN.out]; exact Nat.le_refl _), HCD.out] at hfin
        subst hfin
        go_wp2_with fail
        go_ret
        exact ⟨rfl, q7⟩
  · have hd : decide (a.length + b.length ≤ 300) = false := decide_eq_false hs
    rw [hd]
    go_wp2_with fail
    go_ret
    exact ⟨rfl, hb2⟩
theorem DiffMakes_walk (a b : ByteArray) (ha : a.size ≤ 140737488351232) (hb : b.size ≤ 140737488351232) (w : World) :
    Calls Try.prog 14 #[.string a, .string b] w fun e w' => e = .returned (.bool true) ∧ Below w.heap.size w w' := by
  have h := DiffMakes_l a.data.toList b.data.toList (by rw [bstr_length]; exact ha) (by rw [bstr_length]; exact hb) w
  rw [← eq_bstr, ← eq_bstr] at h
  exact h
end Go.Proofs.Ytmmkbjinkdgdbaa
