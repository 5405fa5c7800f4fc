/- Contract of lex.next. -/
import Derived.Test.YtnmbakibiaedhaaDoorLexA
import Derived.Laws.Rows
namespace Go.Proofs.YtnmbakibiaedhaaDoor
open Go.RowKit
set_option linter.unusedVariables false
set_option linter.unusedSimpArgs false
theorem bstr_cutL (l : List UInt8) (i j : Nat) : (bstr l).extract i j = bstr ((l.drop i).take (j - i)) := by
  apply ByteArray.ext
  apply Array.ext'
  rw [ByteArray.data_extract, Array.toList_extract]
  rfl
theorem bstr_atL (l : List UInt8) (i : Nat) (h : i < (bstr l).size) : (bstr l)[i]'h = l.getD i 0 := by
  have h' : i < l.length := by rw [bstr_size] at h; exact h
  rw [List.getD_eq_getElem?_getD, List.getElem?_eq_getElem h']
  rfl
theorem prefix_take (m l : List UInt8) (h : m.length ≤ l.length) : m.isPrefixOf l = (l.take m.length == m) := by
  rw [Bool.eq_iff_iff, List.isPrefixOf_iff_prefix, beq_iff_eq, List.prefix_iff_eq_take]
  exact ⟨fun h => h.symm, fun h => h.symm⟩
theorem prefix_no (m l : List UInt8) (h : ¬ m.length ≤ l.length) : m.isPrefixOf l = false := by
  rw [Bool.eq_false_iff]
  intro hh
  exact h (List.IsPrefix.length_le (List.isPrefixOf_iff_prefix.1 hh))
set_option maxRecDepth 100000 in
theorem HasPrefixL_any (l m : List UInt8) (hl : l.length ≤ 100000) (hm : m.length ≤ 100000) (w : World) : Calls Tryd.prog 93 #[.string (bstr l), .string (bstr m)] w fun e w' => e = .returned (.bool (m.isPrefixOf l)) ∧ w = w' := by
  by_cases h : m.length ≤ l.length
  · have hp := prefix_take m l h
    have hx : (bstr l).extract 0 m.length = bstr (l.take m.length) := by rw [bstr_cutL]; simp
    have d1 : decide ((m.length : Int) ≤ (l.length : Int)) = true := by rw [decide_eq_true_eq]; omega
    have d2 : decide (m.length ≤ l.length) = true := decide_eq_true h
    have hI : (m.length : Int) ≤ (l.length : Int) := by omega
    have HP := Lib.hid hp; clear hp
    go_enter Tryd.func93, Tryd.ntmps93
    go_wp2_with fail
    go_ret
    exact ⟨ret_bool HP.out.symm, rfl⟩
  · have hp := prefix_no m l h
    have d1 : decide ((m.length : Int) ≤ (l.length : Int)) = false := by rw [decide_eq_false_iff_not]; omega
    have d2 : decide (m.length ≤ l.length) = false := decide_eq_false h
    have HP := Lib.hid hp; clear hp
    go_enter Tryd.func93, Tryd.ntmps93
    go_wp2_with fail
    go_ret
    exact ⟨ret_bool HP.out.symm, rfl⟩
theorem HasPrefix_any (l m : List UInt8) (hl : l.length ≤ 100000) (hm : m.length ≤ 100000) (w : World) : Calls Tryd.prog 62 #[.string (bstr l), .string (bstr m)] w fun e w' => e = .returned (.bool (m.isPrefixOf l)) ∧ w = w' := by
  have h := HasPrefixL_any l m hl hm w
  generalize m.isPrefixOf l = b at *
  have H := Lib.hid h; clear h
  go_enter Tryd.func62, Tryd.ntmps62
  go_wp2_with fail
  refine H.out.mono ?_
  rintro e w1 ⟨rfl, rfl⟩
  go_wp2_with fail
  go_ret
  exact ⟨rfl, rfl⟩
/-- the table of marks, as it was laid -/
def MarksAt (w : World) : Prop := ∀ j, j < 18 → w.cell? ⟨2, j, none⟩ = some (.string (bstr (Lex.marks.getD j [])))
theorem MarksAt.below {w w' : World} {B : Nat} (h : MarksAt w) (hb : Below B w w') (hB : w.heap.size ≤ B) : MarksAt w' := by
  intro j hj
  have hc := h j hj
  have hlt := World.block_lt_of_cell? w _ hc
  exact (hb.cell (p := ⟨2, j, none⟩) (Nat.lt_of_lt_of_le hlt hB)).trans hc
def marksV : Array Value := #[.string (bstr [61, 61]), .string (bstr [33, 61]), .string (bstr [123]), .string (bstr [125]), .string (bstr [91]), .string (bstr [93]), .string (bstr [40]), .string (bstr [41]), .string (bstr [59]), .string (bstr [44]), .string (bstr [61]), .string (bstr [43]), .string (bstr [45]), .string (bstr [42]), .string (bstr [38]), .string (bstr [124]), .string (bstr [60]), .string (bstr [62])]
theorem marks_index (k : Nat) (h : k < 18) (w : World) : (Instr.index 152 (.agg marksV) (.int .i64 k)).run Tryd.prog w = .ok (.string (bstr (Lex.marks.getD k []))) w := by
  rcases (by omega : k = 0 ∨ k = 1 ∨ k = 2 ∨ k = 3 ∨ k = 4 ∨ k = 5 ∨ k = 6 ∨ k = 7 ∨ k = 8 ∨ k = 9 ∨ k = 10 ∨ k = 11 ∨ k = 12 ∨ k = 13 ∨ k = 14 ∨ k = 15 ∨ k = 16 ∨ k = 17) with rfl | rfl | rfl | rfl | rfl | rfl | rfl | rfl | rfl | rfl | rfl | rfl | rfl | rfl | rfl | rfl | rfl | rfl <;> kernel_rfl
namespace Lex
theorem wordLen_lt (l : List UInt8) (k : Nat) (h : k < (l.takeWhile word).length) : word (l.getD k 0) = true := by
  have h1 := takeWhile_all word l ((l.takeWhile word)[k]) (List.getElem_mem h)
  have h2 : l.getD k 0 = (l.takeWhile word)[k] := by
    have hp := List.takeWhile_prefix word (l := l)
    have := hp.getElem (by exact h)
    rw [this, List.getD_eq_getElem?_getD, List.getElem?_eq_getElem]
    rfl
  rw [h2]; exact h1
theorem wordLen_stop : ∀ (l : List UInt8), (l.takeWhile word).length < l.length → word (l.getD (l.takeWhile word).length 0) = false := by
  intro l
  induction l with
  | nil => intro h; simp at h
  | cons c l ih =>
    intro h
    rw [List.takeWhile_cons] at h ⊢
    by_cases hc : word c = true
    · rw [if_pos hc] at h ⊢
      simp only [List.length_cons] at h ⊢
      have := ih (by omega)
      simpa using this
    · rw [if_neg hc]
      simpa using hc
end Lex
end Go.Proofs.YtnmbakibiaedhaaDoor
