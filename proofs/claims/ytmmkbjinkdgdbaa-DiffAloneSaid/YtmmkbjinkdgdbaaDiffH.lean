/- The law DiffAlone. -/
import Derived.Test.YtmmkbjinkdgdbaaDiffG
namespace Go.Proofs.Ytmmkbjinkdgdbaa
open Go.RowKit
set_option linter.unusedVariables false
set_option linter.unusedSimpArgs false
theorem Both_self (l m : List UInt8) (w : World) (h : l.length + m.length ≤ 300) : Calls Try.prog 52 #[.string (bstr l), .string (bstr m), .string (bstr m)] w fun e w' => e = .returned (.tuple #[.string (bstr m), .bool true, .nilIface]) ∧ Below w.heap.size w w' := by
  refine (Both_any l m m w (by omega) (by omega)).mono ?_
  rintro e w1 ⟨h1, hb⟩
  rw [Diff.merge_same, Diff.merge_one, List.nil_append, (Diff.chs_edits l m).2] at h1
  rcases h1 with ⟨r, hr, rfl⟩ | ⟨hr, _⟩
  · cases hr
    exact ⟨rfl, hb⟩
  · cases hr
theorem Both_left (l m : List UInt8) (w : World) (h : l.length + m.length ≤ 300) : Calls Try.prog 52 #[.string (bstr l), .string (bstr m), .string (bstr l)] w fun e w' => e = .returned (.tuple #[.string (bstr m), .bool true, .nilIface]) ∧ Below w.heap.size w w' := by
  refine (Both_any l m l w (by omega) (by omega)).mono ?_
  rintro e w1 ⟨h1, hb⟩
  rw [Diff.edits_self, Diff.merge_one, List.nil_append, (Diff.chs_edits l m).2] at h1
  rcases h1 with ⟨r, hr, rfl⟩ | ⟨hr, _⟩
  · cases hr
    exact ⟨rfl, hb⟩
  · cases hr
theorem Both_right (l m : List UInt8) (w : World) (h : l.length + m.length ≤ 300) : Calls Try.prog 52 #[.string (bstr l), .string (bstr l), .string (bstr m)] w fun e w' => e = .returned (.tuple #[.string (bstr m), .bool true, .nilIface]) ∧ Below w.heap.size w w' := by
  refine (Both_any l l m w (by omega) (by omega)).mono ?_
  rintro e w1 ⟨h1, hb⟩
  rw [Diff.edits_self, Diff.merge_nil, Diff.merge_one, List.nil_append, (Diff.chs_edits l m).2] at h1
  rcases h1 with ⟨r, hr, rfl⟩ | ⟨hr, _⟩
  · cases hr
    exact ⟨rfl, hb⟩
  · cases hr
theorem merge_comm_edits (l m n : List UInt8) : Diff.mergeB l (Diff.chs (Diff.edits l n)) (Diff.chs (Diff.edits l m)) 0 [] = Diff.mergeB l (Diff.chs (Diff.edits l m)) (Diff.chs (Diff.edits l n)) 0 [] :=
  Diff.merge_comm l _ _ 0 [] (Diff.Chain.fine (Diff.chs_edits l n).1) (Diff.Chain.fine (Diff.chs_edits l m).1)
set_option maxRecDepth 100000 in
set_option maxHeartbeats 1000000 in
theorem DiffAlone_l (l m n : List UInt8) (hl : l.length ≤ 140737488351232) (hm : m.length ≤ 140737488351232) (hn : n.length ≤ 140737488351232) (w : World) :
    Calls Try.prog 13 #[.string (bstr l), .string (bstr m), .string (bstr n)] w fun e w' => e = .returned (.bool true) ∧ Below w.heap.size w w' := by
  have hall : Diff.all [l, m, n] = l.length + m.length + n.length := by simp [Diff.all]; omega
  have hsum : Diff.all [l, m, n] ≤ 1000000000000000000 := by omega
  go_enter Try.func13, Try.ntmps13
  go_wp2_with fail
  refine (differed_any _).mono ?_
  rintro e w1 ⟨rfl, hb1⟩
  go_wp2_with fail
  have hrow := RowAt.new w1 9 #[.string (bstr l), .string (bstr m), .string (bstr n)]
  have hb2 := hb1.alloc hb1.size (.cells #[.string (bstr l), .string (bstr m), .string (bstr n)] 9)
  generalize w1.alloc (.cells #[.string (bstr l), .string (bstr m), .string (bstr n)] 9) = w2 at *
  generalize w1.heap.size = B at *
  refine (near_any [l, m, n] w2 B 3 hrow hsum (by simp) (by simp)).mono ?_
  rintro e w3 ⟨rfl, rfl⟩
  rw [hall]
  by_cases hs : l.length + m.length + n.length ≤ 300
  · have hd : decide (l.length + m.length + n.length ≤ 300) = true := decide_eq_true hs
    rw [hd]
    clear hall hsum hrow hd
    go_wp2_with fail
    refine (Both_left l m _ (by omega)).mono ?_
    rintro e w3 ⟨rfl, hb3⟩
    go_wp2_with fail
    refine (Both_right l m _ (by omega)).mono ?_
    rintro e w4 ⟨rfl, hb4⟩
    go_wp2_with fail
    refine (Both_self l m _ (by omega)).mono ?_
    rintro e w5 ⟨rfl, hb5⟩
    go_wp2_with fail
    have hc := merge_comm_edits l m n
    have h6 := fun w => Both_any l m n w (by omega) (by omega)
    have h7 := fun w => Both_any l n m w (by omega) (by omega)
    rw [hc] at h7
    clear hc
    rcases hM : Diff.mergeB l (Diff.chs (Diff.edits l m)) (Diff.chs (Diff.edits l n)) 0 [] with _ | r
    · have H6 := Lib.hid h6; clear h6
      have H7 := Lib.hid h7; clear h7
      refine (H6.out _).mono ?_
      rintro e w6 ⟨h, hb6⟩
      rw [hM] at h
      obtain rfl : e = .returned (.tuple #[.string (bstr m), .bool false, .nilIface]) := by
        rcases h with ⟨r, hr, _⟩ | ⟨_, h⟩
        · cases hr
        · exact h
      clear h
      have HM := Lib.hid hM; clear hM
      go_wp2_with fail
      refine (H7.out _).mono ?_
      rintro e w7 ⟨h, hb7⟩
      rw [HM.out] at h
      obtain rfl : e = .returned (.tuple #[.string (bstr n), .bool false, .nilIface]) := by
        rcases h with ⟨r, hr, _⟩ | ⟨_, h⟩
        · cases hr
        · exact h
      clear h
      go_wp2_with fail
      go_ret
      refine ⟨rfl, ?_⟩
      have q3 := hb2.trans (hb3.mono hb2.size)
      have q4 := q3.trans (hb4.mono q3.size)
      have q5 := q4.trans (hb5.mono q4.size)
      have q6 := q5.trans (hb6.mono q5.size)
      exact q6.trans (hb7.mono q6.size)
    · have H6 := Lib.hid h6; clear h6
      have H7 := Lib.hid h7; clear h7
      refine (H6.out _).mono ?_
      rintro e w6 ⟨h, hb6⟩
      rw [hM] at h
      obtain rfl : e = .returned (.tuple #[.string (bstr r), .bool true, .nilIface]) := by
        rcases h with ⟨r', hr, h⟩ | ⟨hr, _⟩
        · cases hr
          exact h
        · cases hr
      clear h
      have HM := Lib.hid hM; clear hM
      go_wp2_with fail
      refine (H7.out _).mono ?_
      rintro e w7 ⟨h, hb7⟩
      rw [HM.out] at h
      obtain rfl : e = .returned (.tuple #[.string (bstr r), .bool true, .nilIface]) := by
        rcases h with ⟨r', hr, h⟩ | ⟨hr, _⟩
        · cases hr
          exact h
        · cases hr
      clear h
      go_wp2_with fail
      go_ret
      refine ⟨rfl, ?_⟩
      have q3 := hb2.trans (hb3.mono hb2.size)
      have q4 := q3.trans (hb4.mono q3.size)
      have q5 := q4.trans (hb5.mono q4.size)
      have q6 := q5.trans (hb6.mono q5.size)
      exact q6.trans (hb7.mono q6.size)
  · have hd : decide (l.length + m.length + n.length ≤ 300) = false := decide_eq_false hs
    rw [hd]
    go_wp2_with fail
    go_ret
    exact ⟨rfl, hb2⟩
theorem DiffAlone_walk (a b c : ByteArray) (ha : a.size ≤ 140737488351232) (hb : b.size ≤ 140737488351232) (hc : c.size ≤ 140737488351232) (w : World) :
    Calls Try.prog 13 #[.string a, .string b, .string c] w fun e w' => e = .returned (.bool true) ∧ Below w.heap.size w w' := by
  have h := DiffAlone_l a.data.toList b.data.toList c.data.toList (by rw [bstr_length]; exact ha) (by rw [bstr_length]; exact hb) (by rw [bstr_length]; exact hc) w
  rw [← eq_bstr, ← eq_bstr, ← eq_bstr] at h
  exact h
end Go.Proofs.Ytmmkbjinkdgdbaa
