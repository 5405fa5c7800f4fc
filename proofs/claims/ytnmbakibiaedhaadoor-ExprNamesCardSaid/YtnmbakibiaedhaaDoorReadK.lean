/- Names as a map; the fact reckoned. -/
import Derived.Test.YtnmbakibiaedhaaDoorReadJ
import Derived.Maps.Own
import Derived.Maps.OwnSet
import Derived.OpenShut
namespace Go.Proofs.YtnmbakibiaedhaaDoor
open Go.RowKit
set_option linter.unusedVariables false
set_option linter.unusedSimpArgs false
open Rd
open Ex (X levels)
/-- the names of a datum -/
def nm {H : Type} (D : DataW H) : Ex.Names := fun s => if 1000 < s.length then none else match D.atKey (.string s) .nil with
  | .lit (.int _ a) => some a
  | _ => none
theorem names_own {H : Type} {w : World} {b n : Nat} {D : DataW H} (h : w.ownsMap Tryd.prog 9 (plainElem Tryd.prog 3) b n D) : ∃ k, k ≤ n ∧ NamesAt w (.map (some b)) (nm D) k := by
  obtain ⟨es, clock, hb, F, hs, hD⟩ := h
  have K := Maps.string_keyed (P := Tryd.prog) Tryd.underlying9
  have hblt : b < w.heap.size := (Array.getElem?_eq_some_iff.1 hb).1
  have hlook : ∀ W, Below w.heap.size w W → ∀ s : List UInt8, s.length ≤ 1000 → (Instr.lookup 22 (.map (some b)) (.string (bstr s)) true).run Tryd.prog W = .ok (.tuple #[.int .i64 ((nm D s).getD 0), .bool (nm D s).isSome]) W ∧ ∀ v, nm D s = some v → Ex.InR v := by
    intro W hW s hsl
    have hb' : W.heap[b]? = some (.map es clock) := (hW.block b hblt).trans hb
    have hz : (zeroValue 3).run Tryd.prog W = .ok (.int .i64 0) W := by kernel_rfl
    have hkey : keyOf Tryd.prog 9 (.string (bstr s)) = some (.string s) := WideMaps.keyOf_string_mk Tryd.underlying9 (by rw [bstr_size]; unfold maxLen; omega)
    rcases Maps.fit_look true K Tryd.underlying22 hz hb' F hkey with ⟨hrun, _, hat⟩ | ⟨e0, y, _, _, hrun, hRv, hat, _⟩
    · have hn : nm D s = none := by
        unfold nm
        rw [if_neg (by omega), hD, hat .nil]
      rw [hn]
      exact ⟨hrun, fun v e => by cases e⟩
    · obtain ⟨a, ha, hy, hwf⟩ := plainElem_int_inv Tryd.underlying3 hRv
      have hn : nm D s = some a := by
        unfold nm
        rw [if_neg (by omega), hD, hat .nil, hy]
      rw [hn]
      rw [ha] at hrun
      refine ⟨hrun, fun v e => ?_⟩
      cases e
      exact bounds_i64 hwf
  refine ⟨es.size, hs, fun W hW s hsl => (hlook W hW s hsl).1, fun s v e => ?_, fun W hW => ?_⟩
  · by_cases hl : 1000 < s.length
    · unfold nm at e; rw [if_pos hl] at e; cases e
    · exact (hlook w (Below.refl _ _) s (by omega)).2 v e
  · have hb' : W.heap[b]? = some (.map es clock) := (hW.block b hblt).trans hb
    exact run_len_map W 22 3 b es clock (by kernel_rfl) hb'
theorem names_nil (w : World) : NamesAt w (.map none) (fun _ => none) 0 := by
  refine ⟨fun W hW s hs => ?_, fun s v e => (by cases e), fun W hW => ?_⟩
  · kernel_rfl
  · exact run_len_nilMap W 22 3 (by kernel_rfl)
end Go.Proofs.YtnmbakibiaedhaaDoor
