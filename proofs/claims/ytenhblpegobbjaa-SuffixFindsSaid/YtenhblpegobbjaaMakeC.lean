/- make([]T, l, c): a slice of the call's own (of DigitsB). No program in sight. -/
import Derived.Test.YtenhblpegobbjaaOwn
import Derived.Test.YtenhblpegobbjaaInfo
namespace Go.Proofs.Ytenhblpegobbjaa
open Go.RowKit
set_option linter.unusedVariables false
set_option linter.unusedSimpArgs false
theorem wpList_makeC {P : Program} (w : World) {ops : Array Oper} {rest : List Oper} {o : Oper} {a : Act} {Q : Exit → Act → World → Prop} (hg : o.guard = none) (l c : Operand) (t : TypeId)
    (hop : o.op = Op.makeSlice t l c) (e : TypeId) (i : TypeInfo) (z : Value) (h1 : P.underlying t = some (.slice e)) (h2 : P.info? e = some i) (h3 : i.zero = some z) (h4 : i.size = 1) (h5 : z.cells = #[z])
    (kl kc : IntKind) (L C : Int) (n m : Nat) (hl : a.eval l = .int kl L) (hc : a.eval c = .int kc C) (hL : L = (n : Int)) (hC : C = (m : Int)) (hnm : n ≤ m) (b2 : i.bytes * m ≤ 281474976710656) (b3 : m ≤ maxLen) (B : Nat) (hB : B ≤ w.heap.size)
    (hK : ∀ w', Owns w' B e 1 (some ⟨w.heap.size, 0, none⟩) n m (List.replicate n z) → Below w.heap.size w w' → w.heap.size < w'.heap.size → wpList P ops Q rest (a.put o.dst (.slice (some ⟨w.heap.size, 0, none⟩) n m)) w') :
    wpList P ops Q (o :: rest) a w := by
  refine wpList_plain hg fun K hK' => ?_
  subst hL hC
  have h63' : (m : Int) ≤ 9223372036854775807 := by
    have h := b3
    simp [maxLen] at h
    omega
  have hb' : (i.bytes : Int) * (m : Int) ≤ 281474976710656 := by
    have h : ((i.bytes * m : Nat) : Int) ≤ 281474976710656 := by omega
    rwa [Int.natCast_mul] at h
  have hrun := run_make (P := P) w t e i z h1 h2 h3 kl kc n m (by omega) (by omega) hb' h63'
  simp only [Int.toNat_natCast, h4, Nat.mul_one] at hrun
  have hm : (madeCells z.cells m).toList = List.replicate m z := by rw [h5, toList_madeCells_one]
  have ho : Owns (w.alloc (.cells (madeCells z.cells m) e)) B e 1 (some ⟨w.heap.size, 0, none⟩) n m (List.replicate n z) :=
    Owns.of_row (n := n) (cap := m) (by simp) _ w.heap.size _ hB (heap_alloc_new w _) (by rw [← Array.length_toList, hm]; simp) hnm b3 (by rw [hm, List.take_replicate]; congr 1; omega)
  unfold Oper.wp
  simp only [execOp, hop, hl, hc, Sem.run_bind, hrun, Result.andThen_ok, Sem.run_pure]
  exact hK' _ _ (hK _ ho ((Below.refl _ _).alloc (Nat.le_refl _) _) (by simp))
end Go.Proofs.Ytenhblpegobbjaa
