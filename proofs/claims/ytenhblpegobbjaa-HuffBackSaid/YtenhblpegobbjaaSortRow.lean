/- A row of structs that is sorted: the worlds of the shelf's sort, told as a slice of the call's own. No program in sight. -/
import Derived.Test.YtenhblpegobbjaaOwnAt
import Derived.Shelf.GgSortFunc.InsertionK
namespace Go.Proofs.Ytenhblpegobbjaa
open Go.RowKit
set_option linter.unusedVariables false
set_option linter.unusedSimpArgs false
set_option linter.unusedSectionVars false
section
variable {α : Type} [Inhabited α] {enc : α → List Value} {k : Nat}
theorem flat_len (hk : ∀ x, (enc x).length = k) : ∀ l : List α, (l.flatMap enc).length = l.length * k := by
  intro l
  induction l with
  | nil => simp
  | cons x l ih => rw [List.flatMap_cons, List.length_append, ih, hk, List.length_cons, Nat.succ_mul, Nat.add_comm]
theorem flat_get (hk : ∀ x, (enc x).length = k) (hpos : 0 < k) : ∀ (l : List α) (j : Nat), j < l.length * k → (l.flatMap enc)[j]? = some ((enc l.toArray[j / k]!)[j % k]!) := by
  intro l
  induction l with
  | nil => intro j h; simp at h
  | cons x l ih =>
    intro j h
    rw [List.flatMap_cons]
    rw [List.length_cons, Nat.succ_mul] at h
    by_cases hj : j < k
    · rw [List.getElem?_append_left (by rw [hk]; exact hj), Nat.div_eq_of_lt hj, Nat.mod_eq_of_lt hj]
      have h1 : j < (enc x).length := by rw [hk]; exact hj
      rw [List.getElem?_eq_getElem h1]
      simp [h1]
    · rw [List.getElem?_append_right (by rw [hk]; omega), hk, ih (j - k) (by omega)]
      have e1 : (j - k) / k + 1 = j / k := by
        have := Nat.sub_add_cancel (show k ≤ j by omega)
        conv => rhs; rw [← this, Nat.add_div_right _ hpos]
      have e2 : (j - k) % k = j % k := by
        have := Nat.sub_add_cancel (show k ≤ j by omega)
        conv => rhs; rw [← this, Nat.add_mod_right]
      rw [e2, ← e1]
      simp
theorem holdsK_of {w : World} {B : Nat} {e : TypeId} {g off n cap : Nat} {d : List α} (hk : ∀ x, (enc x).length = k) (hpos : 0 < k) (h : OwnsAt w B e k g off n cap (d.flatMap enc)) : Go.Sort.HoldsK enc k w g off d.toArray := by
  intro j hj
  have hj2 : j < d.length * k := by simpa using hj
  obtain ⟨cur, h1, h2, h3⟩ := h.row
  refine ⟨?_, frozen_of_row w g _ cur e h1⟩
  rw [cell_of_row w g _ cur e _ h1, h3 j (by rw [flat_len hk]; exact hj2), flat_get hk hpos d j hj2, Go.Sort.get_flatK _ _ _ _ (by simpa using hj2)]
  rfl
theorem ownsAt_sort {w : World} {B : Nat} {e : TypeId} {g off n cap m : Nat} {d d' : List α} {os : Array Obj} (hk : ∀ x, (enc x).length = k) (hpos : 0 < k) (h : OwnsAt w B e k g off n cap (d.flatMap enc)) (hl : d'.length = d.length) :
    OwnsAt (sortWorldK enc k w g off m d'.toArray os) B e k g off n cap (d'.flatMap enc) ∧ w.grownBy (sortWorldK enc k w g off m d'.toArray os) (some g) := by
  have hlt := h.lt
  have hlen := h.len
  obtain ⟨cur, h1, h2, h3⟩ := h.row
  have hl2 : (d'.flatMap enc).length = (d.flatMap enc).length := by rw [flat_len hk, flat_len hk, hl]
  constructor
  · refine ⟨by rw [hl2]; exact h.len, h.base, h.le, h.max, Go.Sort.putCells id off (Go.Sort.flatK enc k d'.toArray) cur, ?_, ?_, fun i hi => ?_⟩
    · show ((w.heap.modify g _) ++ os)[g]? = _
      rw [Array.getElem?_append_left (by rw [Array.size_modify]; exact hlt), Array.getElem?_modify, if_pos rfl, h1]
      rfl
    · unfold Go.Sort.putCells; rw [Array.size_mapIdx]; exact h2
    · have hi2 : i < d'.length * k := by rw [← flat_len hk]; exact hi
      have hci := h3 i (by rw [← hl2]; exact hi)
      rw [List.getElem?_eq_getElem (by rw [← hl2]; exact hi)] at hci
      rw [flat_get hk hpos d' i hi2]
      unfold Go.Sort.putCells
      rw [Array.getElem?_mapIdx, hci, Option.map_some]
      rw [if_pos ⟨by omega, by simp; exact hi2⟩, show off + i - off = i from by omega, Go.Sort.get_flatK _ _ _ _ (by simpa using hi2)]
      rfl
  · refine ⟨rfl, rfl, rfl, ?_, fun k hk hne => ?_⟩
    · show w.heap.size ≤ ((w.heap.modify g _) ++ os).size
      rw [Array.size_append, Array.size_modify]; omega
    · show ((w.heap.modify g _) ++ os)[k]? = _
      rw [Array.getElem?_append_left (by rw [Array.size_modify]; omega), Array.getElem?_modify, if_neg (by rintro rfl; exact hne rfl)]
end
end Go.Proofs.Ytenhblpegobbjaa
