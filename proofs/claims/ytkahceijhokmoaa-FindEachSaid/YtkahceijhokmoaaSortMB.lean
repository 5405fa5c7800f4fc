/- The sort of matches. -/
import Derived.Test.YtkahceijhokmoaaSortM
import Derived.Test.YtkahceijhokmoaaAnyA
import Derived.Shelf.SlSortCmp.NoneTotal
namespace Go.Proofs.Ytkahceijhokmoaa
open Go.RowKit
set_option linter.unusedVariables false
set_option linter.unusedSimpArgs false
def encM (x : Mt) : List Value := mCell (mtn x)
theorem holds_of_row {w : World} {blk : Nat} {d : List Mt} (h : RowAt w blk 0 36 (mCells (d.map mtn))) : Go.Sort.HoldsK encM 2 w blk 0 d.toArray := by
  intro j hj
  have hj2 : j < d.length * 2 := by simpa using hj
  have hl : j < (mCells (d.map mtn)).length := by rw [mCells_length, List.length_map]; exact hj2
  refine ⟨?_, by rw [Nat.zero_add]; exact h.frozen0 j hl⟩
  have hc := h.cell? j hl
  rw [hc, mCells_get _ j (by rw [List.length_map]; exact hj2), Go.Sort.get_flatK _ _ _ _ (by simpa using hj2)]
  have hjd : j / 2 < d.length := by omega
  have e : encM (d.toArray[j / 2]! : Mt) = mCell ((d.map mtn).getD (j / 2) (0, 0)) := by
    unfold encM
    rw [getElem!_pos d.toArray (j / 2) (by simpa using hjd), List.getD_eq_getElem?_getD, List.getElem?_map, List.getElem?_eq_getElem hjd]
    simp
  rw [e]
  have h2 : j % 2 < 2 := by omega
  rcases (by omega : j % 2 = 0 ∨ j % 2 = 1) with hm | hm <;> rw [hm] <;> rfl
theorem row_of_sort {w : World} {blk m : Nat} {d d' : List Mt} {os : Array Obj} (h : RowAt w blk 0 36 (mCells (d.map mtn))) (hl : d'.length = d.length) :
    RowAt (sortWorldK encM 2 w blk 0 m d'.toArray os) blk 0 36 (mCells (d'.map mtn)) ∧ Below blk w (sortWorldK encM 2 w blk 0 m d'.toArray os) := by
  have hlt := h.lt
  obtain ⟨cur, fz, hb, hc, hf⟩ := h
  have hlen : (mCells (d'.map mtn)).length = (mCells (d.map mtn)).length := by rw [mCells_length, mCells_length, List.length_map, List.length_map, hl]
  have hlen2 : (mCells (d'.map mtn)).length = d'.length * 2 := by rw [mCells_length, List.length_map]
  constructor
  · refine ⟨Go.Sort.putCells id 0 (Go.Sort.flatK encM 2 d'.toArray) cur, fz, ?_, fun i hi => ?_, fun i hi => hf i (by rw [← hlen]; exact hi)⟩
    · show ((w.heap.modify blk _) ++ os)[blk]? = _
      rw [Array.getElem?_append_left (by rw [Array.size_modify]; exact hlt), Array.getElem?_modify, if_pos rfl, hb]
      rfl
    · have hi2 : i < d'.length * 2 := by rw [← hlen2]; exact hi
      have hci := hc i (by rw [← hlen]; exact hi)
      rw [Nat.zero_add] at hci ⊢
      rw [mCells_get _ i (by rw [List.length_map]; exact hi2)]
      unfold Go.Sort.putCells
      rw [Array.getElem?_mapIdx, hci, List.getElem?_eq_getElem (by rw [← hlen]; exact hi), Option.map_some]
      rw [if_pos ⟨Nat.zero_le _, by simp; exact hi2⟩, Nat.sub_zero, Go.Sort.get_flatK _ _ _ _ (by simpa using hi2)]
      have hid : i / 2 < d'.length := by omega
      have e : encM (d'.toArray[i / 2]! : Mt) = mCell ((d'.map mtn).getD (i / 2) (0, 0)) := by
        unfold encM
        rw [getElem!_pos d'.toArray (i / 2) (by simpa using hid), List.getD_eq_getElem?_getD, List.getElem?_map, List.getElem?_eq_getElem hid]
        simp
      rw [e]
      have h2 : i % 2 < 2 := by omega
      rcases (by omega : i % 2 = 0 ∨ i % 2 = 1) with hm | hm <;> rw [hm] <;> rfl
  · refine ⟨rfl, rfl, rfl, ?_, fun k hk => ?_⟩
    · show w.heap.size ≤ ((w.heap.modify blk _) ++ os).size
      rw [Array.size_append, Array.size_modify]; omega
    · show ((w.heap.modify blk _) ++ os)[k]? = _
      rw [Array.getElem?_append_left (by rw [Array.size_modify]; omega), Array.getElem?_modify, if_neg (by omega)]
set_option maxRecDepth 100000 in
theorem sort_m (blk n cap : Nat) (d : List Mt) (w : World) (h : RowAt w blk 0 36 (mCells (d.map mtn))) (hn : d.length = n) (hsz : n < 4611686018427387904) :
    Calls Try.prog 18 #[.slice (some ⟨blk, 0, none⟩) n cap, .func (.func 19) #[] #[]] w fun e w' => e = .returned (.tuple #[]) ∧
      ∃ d' : List Mt, d'.Perm d ∧ d'.Pairwise (fun x y => ltOf cmpM y x = false) ∧ RowAt w' blk 0 36 (mCells (d'.map mtn)) ∧ Below blk w w' := by
  subst hn
  have eg : ∀ args w, (callFunc 19 args).run Try.prog w = .ok (.enter 19 args) w := enters_of Try.func19 (by kernel_rfl) rfl
  have hcl : CmpLays Try.prog 19 #[] encM 2 cmpM blk 0 d.toArray.size w := fun _ _ _ _ x y => closure_m x y _
  have hcon := AnyQ.slices_SortFunc Try.sortM 2 Try.isAgg36 Try.sizeOf36 encM (fun _ => rfl) (fun x v hv => by simp [encM, mCell] at hv; rcases hv with rfl | rfl <;> rfl) cmpM swoM 19 #[] blk 0 cap d.toArray w eg hcl (holds_of_row h) h.lt (by simpa using hsz)
  clear eg hcl
  change Calls Try.prog 18 _ _ _ at hcon
  rw [show d.toArray.size = d.length from by simp] at hcon
  refine hcon.mono ?_
  rintro e w' ⟨rfl, d', m, os, hp, hs, rfl⟩
  have hsize : d'.toList.length = d.length := by have := hp.1; simpa using this
  have hr := row_of_sort (m := m) (os := os) h hsize
  rw [Array.toArray_toList] at hr
  refine ⟨rfl, d'.toList, ?_, ?_, hr.1, hr.2⟩
  · have hperm := hp.2.2
    have ed : d'.extract 0 d.length = d' := Array.extract_eq_self_of_le (by rw [hp.1]; simp)
    have ea : d.toArray.extract 0 d.length = d.toArray := Array.extract_eq_self_of_le (by simp)
    rw [ed, ea] at hperm
    simpa using hperm
  · rw [List.pairwise_iff_getElem]
    intro i j hi hj hij
    have := hs i j (Nat.zero_le _) hij (by simpa using (hsize ▸ hj))
    rw [getElem!_pos d' i (by simpa using hi), getElem!_pos d' j (by simpa using hj)] at this
    simp only [Array.getElem_toList]
    exact this
theorem sort_is : SortIs := by
  intro B a m c l w ho hl hs hm
  rcases Nat.eq_zero_or_pos m with rfl | hpos
  · have hcon := AnyF.slices_SortFunc_none Try.sortM a c (.func (.func 19) #[] #[]) w
    change Calls Try.prog 18 _ _ _ at hcon
    refine hcon.mono ?_
    rintro e w' ⟨rfl, rfl⟩
    obtain rfl : l = [] := List.length_eq_zero_iff.1 hl
    exact ⟨rfl, [], List.Perm.refl _, List.Pairwise.nil, .inl rfl, Below.refl _ _⟩
  · cases a with
    | none => have := ho.of_none; omega
    | some y =>
      obtain ⟨e1, e2, e3, e4, e5⟩ := ho.row
      rw [e1]
      have e6 := map_mt hs
      rw [← e6] at e5
      refine (sort_m y.block m c (l.map mt) w e5 (by rw [List.length_map]; exact hl) (by omega)).mono ?_
      rintro e w' ⟨rfl, d', h1, h2, h4, h5⟩
      refine ⟨rfl, d'.map mtn, ?_, ?_, .inr ⟨_, rfl, h4⟩, h5.mono e2⟩
      · have := h1.map mtn
        rwa [e6] at this
      · rw [List.pairwise_map]
        refine h2.imp ?_
        intro x y h
        rw [ltM, decide_eq_false_iff_not] at h
        unfold mtn
        simp only []
        omega
end Go.Proofs.Ytkahceijhokmoaa
