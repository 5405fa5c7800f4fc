/- Contracts for spans: Right, Has. -/
import Derived.Test.YtnldobfafaajjaaSpansC
namespace Go.Proofs.Ytnldobfafaajjaa
open Go.RowKit
set_option linter.unusedVariables false
set_option linter.unusedSimpArgs false
instance (a : Int) (l : List Spans.Sp) : Decidable (Spans.rowed a l) := Spans.decRowed a l
set_option maxRecDepth 100000 in
set_option maxHeartbeats 1000000 in
theorem Right_any (x : Option Addr) (n cap : Nat) (l : List Spans.Sp) (w : World) (hl : ReadsSp w w.heap.size x n cap l) (hn : n ≤ 100000) :
    Calls Try.prog 16 #[.slice x n cap] w fun e w' => e = .returned (.bool (decide (Spans.rowed (-1) l))) ∧ Below w.heap.size w w' := by
  obtain ⟨B, hB⟩ : ∃ B, B = w.heap.size := ⟨_, rfl⟩
  rw [← hB] at hl ⊢
  have HB := Lib.hid hB; clear hB
  have HLN := Lib.hid hl.1
  have HL := Lib.hid hl; clear hl
  go_enter Try.func16, Try.ntmps16
  go_wp2_with fail
  go_loopw [3, 8] (fun v3 v8 wr => ∃ (k : Nat) (s : Int), k ≤ n ∧ v8 = .int .i64 k ∧ v3 = .int .i64 s ∧ Hid (Spans.rowed (-1) l ↔ Spans.rowed s (l.drop k)) ∧ Below B w wr) (fun _ v8 _ => n - (intOf v8).toNat)
  case atStart => exact ⟨0, -1, by omega, rfl, rfl, Lib.hid (by rw [List.drop_zero]), Below.refl _ _⟩
  case round =>
    obtain ⟨k, s, hk, rfl, rfl, HS, hbe⟩ := hrel
    have hbB : B ≤ wr.heap.size := by have := hbe.size; have := HB.out; omega
    by_cases hkn : k < n
    · obtain ⟨g, off, rfl, hg, hc0, hc1⟩ := (HL.out.below hbe).2.2 k hkn
      have hlt : k < l.length := by rw [HLN.out]; exact hkn
      have hdr : l.drop k = l.getD k (0, 0) :: l.drop (k + 1) := by
        rw [List.getD_eq_getElem?_getD, List.getElem?_eq_getElem hlt]
        exact List.drop_eq_getElem_cons _
      have hs := HS.out
      rw [hdr] at hs
      clear hdr
      generalize l.getD k (0, 0) = y at *
      obtain ⟨f, t⟩ := y
      simp only [] at hc0 hc1
      have HS2 := Lib.hid hs; clear hs HS
      have hkI : (k : Int) < (n : Int) := by omega
      have hb2 := hbe.alloc hbB (.cells #[.int .i64 f, .int .i64 t] 37)
      by_cases h1 : f ≤ s
      · have d1 : decide (f ≤ s) = true := decide_eq_true h1
        have HN : Hid (decide (Spans.rowed (-1) l) = false) := Lib.hid (by
          rw [decide_eq_false_iff_not, HS2.out]
          intro hr
          have := hr.1
          simp only [] at this
          omega)
        go_wp2_with fail
        go_ret
        exact ⟨ret_bool HN.out.symm, hb2⟩
      · have d1 : decide (f ≤ s) = false := decide_eq_false h1
        by_cases h2 : t ≤ f
        · have d2 : decide (t ≤ f) = true := decide_eq_true h2
          have HN : Hid (decide (Spans.rowed (-1) l) = false) := Lib.hid (by
            rw [decide_eq_false_iff_not, HS2.out]
            intro hr
            have := hr.2.1
            simp only [] at this
            omega)
          go_wp2_with fail
          go_ret
          exact ⟨ret_bool HN.out.symm, hb2⟩
        · have d2 : decide (t ≤ f) = false := decide_eq_false h2
          have HN : Hid (Spans.rowed (-1) l ↔ Spans.rowed t (l.drop (k + 1))) := Lib.hid (by
            rw [HS2.out]
            exact ⟨fun h => h.2.2, fun h => ⟨by simp only []; omega, by simp only []; omega, h⟩⟩)
          go_wp2_with fail
          go_roundw
          case rel => exact ⟨k + 1, t, by omega, by go_num, rfl, HN, hb2⟩
          case measure => simp [intOf]; omega
    · obtain rfl : k = n := by omega
      have hd : decide ((k : Int) < (k : Int)) = false := by simp
      have HN : Hid (decide (Spans.rowed (-1) l) = true) := Lib.hid (by
        rw [decide_eq_true_eq, HS.out, List.drop_of_length_le (by rw [HLN.out]; exact Nat.le_refl _)]
        trivial)
      go_wp2_with fail
      go_ret
      exact ⟨ret_bool HN.out.symm, hbe⟩
set_option maxRecDepth 100000 in
theorem has1 (y : Spans.Sp) (at_ : Int) (bx : Nat) (w : World) (hc : w.cell? ⟨bx, 0, none⟩ = some (.int .i64 at_)) (hlt : bx < w.heap.size) :
    Calls Try.prog 39 #[.agg #[.int .i64 y.1, .int .i64 y.2], .pointer (some ⟨bx, 0, none⟩)] w fun e w' => e = .returned (.bool (decide (y.1 ≤ at_) && decide (at_ < y.2))) ∧ Below w.heap.size w w' := by
  obtain ⟨f, t⟩ := y
  simp only []
  have hb := (Below.refl w.heap.size w).alloc (Nat.le_refl _) (.cells #[.int .i64 f, .int .i64 t] 37)
  have h2 := (hb.cell (p := ⟨bx, 0, none⟩) hlt).trans hc
  go_enter Try.func39, Try.ntmps39
  by_cases h1 : f ≤ at_
  · have d1 : decide (f ≤ at_) = true := decide_eq_true h1
    rw [d1, Bool.true_and]
    go_wp2_with fail
    go_ret
    exact ⟨rfl, hb⟩
  · have d1 : decide (f ≤ at_) = false := decide_eq_false h1
    rw [d1, Bool.false_and]
    go_wp2_with fail
    go_ret
    exact ⟨rfl, hb⟩
end Go.Proofs.Ytnldobfafaajjaa
