/- Contracts for spans: the sort of spans by where they begin. -/
import Derived.Test.YtnldobfafaajjaaSortSpan
import Derived.Test.YtnldobfafaajjaaPlainSpans
import Derived.Test.YtnldobfafaajjaaOwn
namespace Go.Proofs.Ytnldobfafaajjaa
open Go.RowKit
set_option linter.unusedVariables false
set_option linter.unusedSimpArgs false
def spCell (x : Spans.Sp) : List Value := [.int .i64 x.1, .int .i64 x.2]
def spCells (l : List Spans.Sp) : List Value := l.flatMap spCell
theorem spCells_length (l : List Spans.Sp) : (spCells l).length = l.length * 2 := by
  induction l with
  | nil => rfl
  | cons e l ih => simp only [spCells, List.flatMap_cons, List.length_append, List.length_cons] at ih ⊢; rw [ih]; simp [spCell]; omega
theorem spCells_append (l m : List Spans.Sp) : spCells (l ++ m) = spCells l ++ spCells m := by simp [spCells]
theorem spCells_get (l : List Spans.Sp) : ∀ j, j < l.length * 2 → (spCells l)[j]? = (spCell (l.getD (j / 2) (0, 0)))[j % 2]? := by
  induction l with
  | nil => intro j h; simp at h
  | cons x l ih =>
    intro j h
    rcases j with _ | _ | j
    · rfl
    · rfl
    · have e1 : (j + 2) / 2 = j / 2 + 1 := by omega
      have e2 : (j + 2) % 2 = j % 2 := by omega
      rw [e1, e2]
      exact ih j (by simp at h; omega)
/-- the order of the sort -/
def cmpSp (x y : Spans.Sp) : Int := if x.1 < y.1 then -1 else if y.1 < x.1 then 1 else 0
theorem ltSp (x y : Spans.Sp) : ltOf cmpSp x y = decide (x.1 < y.1) := by
  unfold ltOf cmpSp
  by_cases h1 : x.1 < y.1
  · simp [h1]
  · by_cases h2 : y.1 < x.1 <;> simp [h1, h2]
theorem swoSp : Go.Sort.SWO (ltOf cmpSp) where
  irrefl x := by rw [ltSp]; simp
  trans x y z h1 h2 := by rw [ltSp] at *; simp at *; omega
  ntrans x y z h1 h2 := by rw [ltSp] at *; simp at *; omega
set_option maxRecDepth 100000 in
theorem closure_sp (x y : Spans.Sp) (W : World) : Calls Try.prog 37 #[.agg #[.int .i64 x.1, .int .i64 x.2], .agg #[.int .i64 y.1, .int .i64 y.2]] W fun e w' => e = .returned (.int .i64 (cmpSp x y)) ∧ ∃ q os', w' = Go.Sort.grow (W.drewN q) os' := by
  obtain ⟨x1, x2⟩ := x
  obtain ⟨y1, y2⟩ := y
  unfold cmpSp
  simp only []
  have hfin : ∀ o1 o2, ∃ q os', (W.alloc o1).alloc o2 = Go.Sort.grow (W.drewN q) os' := fun o1 o2 => ⟨0, _, by rw [Go.Sort.alloc_eq_grow, Go.Sort.alloc_eq_grow, Go.Sort.grow_grow]; rfl⟩
  have HF := Lib.hid hfin; clear hfin
  go_enter Try.func37, Try.ntmps37
  by_cases h1 : x1 < y1
  · have d1 : decide (x1 < y1) = true := decide_eq_true h1
    rw [if_pos h1]
    go_wp2_with fail
    go_ret
    exact ⟨rfl, HF.out _ _⟩
  · have d1 : decide (x1 < y1) = false := decide_eq_false h1
    rw [if_neg h1]
    by_cases h2 : y1 < x1
    · have d2 : decide (y1 < x1) = true := decide_eq_true h2
      rw [if_pos h2]
      go_wp2_with fail
      go_ret
      exact ⟨rfl, HF.out _ _⟩
    · have d2 : decide (y1 < x1) = false := decide_eq_false h2
      rw [if_neg h2]
      go_wp2_with fail
      go_ret
      exact ⟨rfl, HF.out _ _⟩
theorem holds_of_row {w : World} {blk : Nat} {d : List Spans.Sp} (h : RowAt w blk 0 37 (spCells d)) : Go.Sort.HoldsK spCell 2 w blk 0 d.toArray := by
  intro j hj
  have hj2 : j < d.length * 2 := by simpa using hj
  have hl : j < (spCells d).length := by rw [spCells_length]; exact hj2
  refine ⟨?_, by rw [Nat.zero_add]; exact h.frozen0 j hl⟩
  have hc := h.cell? j hl
  rw [hc, spCells_get d j hj2, Go.Sort.get_flatK _ _ _ _ (by simpa using hj2)]
  have e : (d.toArray[j / 2]! : Spans.Sp) = d.getD (j / 2) (0, 0) := by
    have : j / 2 < d.length := by omega
    simp [List.getElem!_eq_getElem?_getD, this]
  rw [e]
  have h2 : j % 2 < 2 := by omega
  rcases (by omega : j % 2 = 0 ∨ j % 2 = 1) with hm | hm <;> rw [hm] <;> rfl
theorem row_of_sort {w : World} {blk m : Nat} {d d' : List Spans.Sp} {os : Array Obj} (h : RowAt w blk 0 37 (spCells d)) (hl : d'.length = d.length) : RowAt (sortWorldK spCell 2 w blk 0 m d'.toArray os) blk 0 37 (spCells d') ∧ Below blk w (sortWorldK spCell 2 w blk 0 m d'.toArray os) := by
  have hlt := h.lt
  obtain ⟨cur, fz, hb, hc, hf⟩ := h
  have hlen : (spCells d').length = (spCells d).length := by rw [spCells_length, spCells_length, hl]
  constructor
  · refine ⟨Go.Sort.putCells id 0 (Go.Sort.flatK spCell 2 d'.toArray) cur, fz, ?_, fun i hi => ?_, fun i hi => hf i (by rw [← hlen]; exact hi)⟩
    · show ((w.heap.modify blk _) ++ os)[blk]? = _
      rw [Array.getElem?_append_left (by rw [Array.size_modify]; exact hlt), Array.getElem?_modify, if_pos rfl, hb]
      rfl
    · have hi2 : i < d'.length * 2 := by rw [← spCells_length]; exact hi
      have hci := hc i (by rw [← hlen]; exact hi)
      rw [Nat.zero_add] at hci ⊢
      rw [spCells_get d' i hi2]
      unfold Go.Sort.putCells
      rw [Array.getElem?_mapIdx, hci, List.getElem?_eq_getElem (by rw [← hlen]; exact hi), Option.map_some]
      rw [if_pos ⟨Nat.zero_le _, by simp; exact hi2⟩, Nat.sub_zero, Go.Sort.get_flatK _ _ _ _ (by simpa using hi2)]
      have e : (d'.toArray[i / 2]! : Spans.Sp) = d'.getD (i / 2) (0, 0) := by
        have : i / 2 < d'.length := by omega
        simp [List.getElem!_eq_getElem?_getD, this]
      rw [e]
      have h2 : i % 2 < 2 := by omega
      rcases (by omega : i % 2 = 0 ∨ i % 2 = 1) with hm | hm <;> rw [hm] <;> rfl
  · refine ⟨rfl, rfl, rfl, ?_, fun k hk => ?_⟩
    · show w.heap.size ≤ ((w.heap.modify blk _) ++ os).size
      rw [Array.size_append, Array.size_modify]; omega
    · show ((w.heap.modify blk _) ++ os)[k]? = _
      rw [Array.getElem?_append_left (by rw [Array.size_modify]; omega), Array.getElem?_modify, if_neg (by omega)]
set_option maxRecDepth 100000 in
theorem sort_any (blk n cap : Nat) (d : List Spans.Sp) (w : World) (h : RowAt w blk 0 37 (spCells d)) (hn : d.length = n) (hsz : n < 4611686018427387904) :
    Calls Try.prog 36 #[.slice (some ⟨blk, 0, none⟩) n cap, .func (.func 37) #[] #[]] w fun e w' => e = .returned (.tuple #[]) ∧ ∃ d' : List Spans.Sp, d'.length = n ∧ (∀ x, x ∈ d' ↔ x ∈ d) ∧ d'.Pairwise (fun x y => x.1 ≤ y.1) ∧ RowAt w' blk 0 37 (spCells d') ∧ Below blk w w' := by
  subst hn
  have eg : ∀ args w, (callFunc 37 args).run Try.prog w = .ok (.enter 37 args) w := enters_of Try.func37 (by kernel_rfl) rfl
  have hcl : CmpLays Try.prog 37 #[] spCell 2 cmpSp blk 0 d.toArray.size w := fun _ _ _ _ x y => closure_sp x y _
  have hcon := AnyQ.slices_SortFunc Try.sortSpan 2 Try.isAgg37 Try.sizeOf37 spCell (fun _ => rfl) (fun x v hv => by simp [spCell] at hv; rcases hv with rfl | rfl <;> rfl) cmpSp swoSp 37 #[] blk 0 cap d.toArray w eg hcl (holds_of_row h) h.lt (by simpa using hsz)
  clear eg hcl
  change Calls Try.prog 36 _ _ _ at hcon
  rw [show d.toArray.size = d.length from by simp] at hcon
  refine hcon.mono ?_
  rintro e w' ⟨rfl, d', m, os, hp, hs, rfl⟩
  have hsize : d'.toList.length = d.length := by have := hp.1; simpa using this
  have hr := row_of_sort (m := m) (os := os) h hsize
  rw [Array.toArray_toList] at hr
  refine ⟨rfl, d'.toList, hsize, ?_, ?_, hr.1, hr.2⟩
  · have hperm := hp.2.2
    intro x
    have := hperm.mem_iff (a := x)
    simpa [Array.extract_eq_self_of_le, hp.1] using this
  · rw [List.pairwise_iff_getElem]
    intro i j hi hj hij
    have := hs i j (Nat.zero_le _) hij (by simpa using (hsize ▸ hj))
    rw [ltSp, decide_eq_false_iff_not] at this
    rw [getElem!_pos d' i (by simpa using hi), getElem!_pos d' j (by simpa using hj)] at this
    simp only [Array.getElem_toList]
    omega
end Go.Proofs.Ytnldobfafaajjaa
