/- A slice of integers that is read, wherever it lies. No program in sight. -/
import Derived.Test.YtenhblpegobbjaaOwn
import Derived.OpenShut
namespace Go.Proofs.Ytenhblpegobbjaa
open Go.RowKit
set_option linter.unusedVariables false
set_option linter.unusedSimpArgs false
/-- a slice that begins at a reads as the numbers L -/
def RdI (w : World) (a : Option Addr) (L : List Int) : Prop := ∀ i, i < L.length → ∃ x : Addr, a = some x ∧ x.block < w.heap.size ∧ w.cell? (x.add i) = some (.int .i64 (L.getD i 0))
theorem getD_take (L : List Int) (n i : Nat) (h : i < n) : (L.take n).getD i 0 = L.getD i 0 := by
  simp only [List.getD_eq_getElem?_getD, List.getElem?_take]
  rw [if_pos h]
theorem IsInts.rd {w : World} {a : Option Addr} {n c : Nat} {zs : List Int} (h : IsInts .i64 w a n c zs) : RdI w a (zs.take n) := by
  intro i hi
  rw [List.length_take] at hi
  obtain ⟨x, h1, h2, h3⟩ := h.cell i (by omega)
  exact ⟨x, h1, h2, by rw [getD_take _ _ _ (by omega)]; exact h3⟩
theorem IsInts.take_len {w : World} {a : Option Addr} {n c : Nat} {zs : List Int} (h : IsInts .i64 w a n c zs) : (zs.take n).length = n := by
  have := h.len
  rw [List.length_take]; omega
theorem IsInts.lo {w : World} {a : Option Addr} {n c : Nat} {zs : List Int} (h : IsInts .i64 w a n c zs) : ∀ x ∈ zs.take n, -9223372036854775808 ≤ x ∧ x ≤ 9223372036854775807 := by
  intro x hx
  have hx' := List.mem_of_mem_take hx
  rcases h with ⟨_, _, _, h⟩ | ⟨_, _, _, _, _, _, h, _⟩
  · subst h; simp at hx'
  · exact bounds_i64 (h x hx')
theorem RdI.below {w w' : World} {a : Option Addr} {L : List Int} (h : RdI w a L) {B : Nat} (hb : Below B w w') (hB : w.heap.size ≤ B) : RdI w' a L := by
  intro i hi
  obtain ⟨x, h1, h2, h3⟩ := h i hi
  refine ⟨x, h1, Nat.lt_of_lt_of_le (Nat.lt_of_lt_of_le h2 (Nat.le_refl _)) hb.size, ?_⟩
  rw [World.cell?_of_block (w := w) (w' := w') (a := x.add i)]
  · exact h3
  · rw [Addr.add_block]; exact hb.block _ (Nat.lt_of_lt_of_le h2 hB)
theorem add_lit (b o i : Nat) : (⟨b, o, none⟩ : Addr).add i = ⟨b, o + i, none⟩ := by
  unfold Addr.add; split <;> simp_all
theorem ReadsI.rd {w : World} {a : Option Addr} {L : List Int} (h : ReadsI w a L) : RdI w a L := by
  intro i hi
  rcases h with h | ⟨g, off, h1, hc⟩
  · subst h; simp at hi
  · refine ⟨_, h1, ?_, ?_⟩
    · have := World.block_lt_of_cell? w _ (hc i hi); exact this
    · rw [add_lit]; exact hc i hi
theorem RdI.drewN {w : World} {a : Option Addr} {L : List Int} (h : RdI w a L) (n : Nat) : RdI (w.drewN n) a L := h
/-- the same, of rows below B -/
def RdB (w : World) (B : Nat) (a : Option Addr) (L : List Int) : Prop := RdI w a L ∧ ∀ x, a = some x → L ≠ [] → x.block < B
theorem RdB.below {w w' : World} {a : Option Addr} {L : List Int} {B : Nat} (h : RdB w B a L) (hb : Below B w w') : RdB w' B a L := by
  refine ⟨fun i hi => ?_, h.2⟩
  obtain ⟨x, h1, h2, h3⟩ := h.1 i hi
  have hlt := h.2 x h1 (by rintro rfl; simp at hi)
  refine ⟨x, h1, Nat.lt_of_lt_of_le h2 hb.size, ?_⟩
  rw [World.cell?_of_block (w := w) (w' := w') (a := x.add i)]
  · exact h3
  · rw [Addr.add_block]; exact hb.block _ hlt
theorem RdI.rdB {w : World} {a : Option Addr} {L : List Int} (h : RdI w a L) : RdB w w.heap.size a L := by
  refine ⟨h, fun x hx hL => ?_⟩
  obtain ⟨y, h1, h2, _⟩ := h 0 (List.length_pos_iff.2 hL)
  rw [hx] at h1; cases h1
  exact h2
end Go.Proofs.Ytenhblpegobbjaa
