/- A world that has but grown: nothing of what was there has turned. No program in sight. -/
import Derived.Test.YtnmbakibiaedhaaDoorOwn
import Derived.Sort.Grow
namespace Go.Proofs.YtnmbakibiaedhaaDoor
open Go.RowKit
set_option linter.unusedVariables false
set_option linter.unusedSimpArgs false
structure Grew (w w' : World) : Prop where
  blk : w.grownBy w' none
  drawn : w.drawn ≤ w'.drawn
theorem Grew.refl (w : World) : Grew w w := ⟨grown_refl w none, Nat.le_refl _⟩
theorem Grew.trans {a b c : World} (h : Grew a b) (h' : Grew b c) : Grew a c := ⟨h.blk.trans h'.blk, Nat.le_trans h.drawn h'.drawn⟩
theorem Grew.drew {a b : World} (h : Grew a b) : Grew a b.drew := ⟨grown_drew h.blk, Nat.le_trans h.drawn (Nat.le_succ _)⟩
theorem Grew.drewN {a b : World} (h : Grew a b) (n : Nat) : Grew a (b.drewN n) := ⟨grown_drewN h.blk n, Nat.le_trans h.drawn (Nat.le_add_right _ _)⟩
theorem Grew.alloc {a b : World} (h : Grew a b) (o : Obj) : Grew a (b.alloc o) := ⟨grown_alloc h.blk o, h.drawn⟩
theorem Grew.set {a b : World} (h : Grew a b) (p : Addr) (hp : a.heap.size ≤ p.block) (v : Value) : Grew a (b.setCell p v) := by
  refine ⟨⟨h.blk.os, h.blk.tape, h.blk.output, ?_, ?_⟩, h.drawn⟩
  · have := h.blk.size
    simpa [World.setCell] using this
  · intro k hk hne
    have e : (b.setCell p v).heap[k]? = b.heap[k]? := by
      simp only [World.setCell, Array.getElem?_modify]
      rw [if_neg (by omega)]
    rw [e]
    exact h.blk.block k hk hne
theorem Grew.heap {a b : World} (h : Grew a b) (k : Nat) (hk : k < a.heap.size) : b.heap[k]? = a.heap[k]? := h.blk.block k hk (by simp)
theorem Grew.row {a b : World} (h : Grew a b) {g off : Nat} {e : TypeId} {xs : List Value} (hr : RowAt a g off e xs) : RowAt b g off e xs := hr.of_heap (h.heap g hr.lt)
theorem Grew.below {a b : World} (h : Grew a b) : Below a.heap.size a b := ⟨h.blk.os, h.blk.tape, h.blk.output, h.blk.size, fun k hk => h.heap k hk⟩
theorem Grew.grow {w w' : World} (h : Grew w w') : ∃ q os', w' = Go.Sort.grow (w.drewN q) os' := by
  refine ⟨w'.drawn - w.drawn, w'.heap.extract w.heap.size w'.heap.size, ?_⟩
  have h1 := h.blk.os; have h2 := h.blk.tape; have h3 := h.blk.output; have h4 := h.blk.size; have h5 := h.drawn
  have h6 : w'.heap = w.heap ++ w'.heap.extract w.heap.size w'.heap.size := by
    apply Array.ext_getElem?
    intro k
    by_cases hk : k < w.heap.size
    · rw [Array.getElem?_append_left hk]
      exact h.heap k hk
    · rw [Array.getElem?_append_right (by omega), Array.getElem?_extract]
      by_cases hk2 : k < w'.heap.size
      · rw [if_pos (by omega)]
        congr 1; omega
      · rw [if_neg (by omega), Array.getElem?_eq_none (by omega)]
  obtain ⟨hp, tp, dr, os, out⟩ := w
  obtain ⟨hp', tp', dr', os', out'⟩ := w'
  simp only [Go.Sort.grow, World.drewN] at *
  subst h1 h2 h3
  simp only [World.mk.injEq, and_true, true_and]
  exact ⟨h6, by omega⟩
end Go.Proofs.YtnmbakibiaedhaaDoor
