/- slices.Sort of a slice of the call's own. -/
import Derived.Test.YtenhblpegobbjaaOwn
import Derived.Test.YtenhblpegobbjaaShelfSf
namespace Go.Proofs.Ytenhblpegobbjaa
open Go.RowKit
set_option linter.unusedVariables false
set_option linter.unusedSimpArgs false
def sortedZ (zs : List Int) : List Int := zs.mergeSort fun x y => decide (x ≤ y)
theorem sortedZ_length (zs : List Int) : (sortedZ zs).length = zs.length := List.length_mergeSort _
theorem row_sortedZ {w : World} {e : TypeId} {g m cap : Nat} {B : Nat} {zs ts : List Int} {os : Array Obj} (h : Owns w B e 1 (some ⟨g, 0, none⟩) zs.length cap (ivals zs)) (hl : ts.length = zs.length) :
    Owns (Go.Sort.grow (Go.Sort.putRow (Value.int .i64) (Go.Sort.ahead w m) g 0 ts.toArray) os) B e 1 (some ⟨g, 0, none⟩) zs.length cap (ivals ts) ∧
    w.grownBy (Go.Sort.grow (Go.Sort.putRow (Value.int .i64) (Go.Sort.ahead w m) g 0 ts.toArray) os) (some g) := by
  have hlt := h.lt.2
  rcases h.2 with ⟨h1, _⟩ | ⟨g', cp, cur, h1, h2, h3, h4, h5, h6, h7⟩
  · cases h1
  · cases h1
    constructor
    · refine ⟨by rw [ivals_length, hl, Nat.mul_one], .inr ⟨g, cap, Go.Sort.putCells (Value.int .i64) 0 ts.toArray cur, rfl, h2, ?_, h4, h5, by simp [Go.Sort.putCells, h6], ?_⟩⟩
      · show ((w.heap.modify g _) ++ os)[g]? = _
        rw [Array.getElem?_append_left (by rw [Array.size_modify]; exact hlt), Array.getElem?_modify, if_pos rfl, h3]
        rfl
      · apply List.ext_getElem?
        intro j
        by_cases hj : j < zs.length
        · rw [List.getElem?_take_of_lt (by omega), Array.getElem?_toList]
          have hc : j < cur.size := by omega
          simp [Go.Sort.putCells, ivals, hl, hj, hc]
        · rw [List.getElem?_take_eq_none (by omega), List.getElem?_eq_none (by simp [ivals]; omega)]
    · refine ⟨rfl, rfl, rfl, ?_, fun k hk hne => ?_⟩
      · show w.heap.size ≤ ((w.heap.modify g _) ++ os).size
        rw [Array.size_append, Array.size_modify]; omega
      · show ((w.heap.modify g _) ++ os)[k]? = _
        rw [Array.getElem?_append_left (by rw [Array.size_modify]; exact hk), Array.getElem?_modify, if_neg (fun e => hne (by rw [e]))]
theorem Sort_own {w : World} {B : Nat} {v : Value} {n : Nat} {zs : List Int} (h : w.ownsRow B 3 1 v n (ivals zs)) (hn : n < 4611686018427387904) (hB : B ≤ w.heap.size) :
    Calls Try.prog 85 #[v] w fun e w' => e = .returned (.tuple #[]) ∧ w'.ownsRow B 3 1 v n (ivals (sortedZ zs)) ∧ Below B w w' := by
  have hl := h.1
  rw [ivals_length, Nat.mul_one] at hl
  rcases h.2 with ⟨h1, h2⟩ | ⟨g, cp, cur, h1, h2, h3, h4, h5, h6, h7⟩
  · subst h1 h2
    obtain rfl : zs = [] := List.eq_nil_of_length_eq_zero hl
    refine (Try.slices_Sort_int_none none 0 w).mono ?_
    rintro e w' ⟨rfl, rfl⟩
    exact ⟨rfl, ⟨by simp [ivals, sortedZ], .inl ⟨rfl, rfl⟩⟩, Below.refl _ _⟩
  · subst h1
    subst hl
    have hO : Owns w B 3 1 (some ⟨g, 0, none⟩) zs.length cp (ivals zs) := h
    have hH : Go.Sort.Holds (Value.int .i64) w g 0 zs.toArray := by
      intro j hj
      have hj2 : j < zs.length := by simpa using hj
      refine ⟨?_, by simp [World.frozen?, h3]⟩
      rw [hO.row.2.2.2.2.int j hj2, getElem!_pos zs.toArray j hj, List.getD_eq_getElem?_getD, List.getElem?_eq_getElem hj2]
      rfl
    refine (Try.slices_Sort_int g 0 cp zs w hH hO.lt.2 hn).mono ?_
    rintro e w' ⟨rfl, m, os, rfl⟩
    have hr := row_sortedZ (m := m) (os := os) hO (sortedZ_length zs)
    exact ⟨rfl, hr.1, (Below.refl B w).grown hr.2 hB (fun x e => by cases e; exact h2)⟩
end Go.Proofs.Ytenhblpegobbjaa
