/- A map of the call's own from ints to ints, as a function of the key. No program in sight. -/
import Derived.Test.YtkahceijhokmoaaMem
import Derived.Maps.OwnOps
import Derived.WideKeyEntry
namespace Go.Proofs.Ytkahceijhokmoaa
open Go Go.RowKit Go.Maps Go.WideElems Go.ChangeMaps
set_option linter.unusedVariables false
set_option linter.unusedSimpArgs false
/-- a function of the integers that is another at one place -/
def updI (F : Int → Int) (c v : Int) : Int → Int := fun x => if x = c then v else F x
theorem updI_same (F : Int → Int) (c v : Int) : updI F c v c = v := if_pos rfl
theorem updI_other (F : Int → Int) (c x v : Int) (h : x ≠ c) : updI F c v x = F x := if_neg h
/-- block b is a map of the call's own, of at most n entries: at the key c the number F c stands -/
def MapI (P : Program) (k e : TypeId) (w : World) (b n : Nat) (F : Int → Int) : Prop :=
  ∃ D : DataW Unit, w.ownsMap P k (plainElem P e) b n D ∧ IsMap D ∧ ∀ c : Int, D.atKey (.int .i64 c) (.lit (.int .i64 0)) = .lit (.int .i64 (F c))
section
variable {P : Program} {t k e : TypeId} {w : World} {b n : Nat} {F : Int → Int}
theorem i64_key (c : Int) : WideAt.IsKeyLit (.int .i64 c) := by unfold WideAt.IsKeyLit; trivial
theorem MapI.made (w : World) : MapI P k e (w.alloc (.map #[] 0)) w.heap.size 0 (fun _ => 0) :=
  ⟨.map [], World.ownsMap_made _ _ _ _, isMap_empty, fun c => rfl⟩
theorem MapI.kept {w' : World} {row : Option Nat} (h : MapI P k e w b n F) (hg : w.grownBy w' row) (hne : some b ≠ row) : MapI P k e w' b n F := by
  obtain ⟨D, h1, h2⟩ := h
  exact ⟨D, h1.kept hg hne, h2⟩
theorem MapI.drewN (h : MapI P k e w b n F) (m : Nat) : MapI P k e (w.drewN m) b n F := h
theorem MapI.drew (h : MapI P k e w b n F) : MapI P k e w.drew b n F := h
theorem MapI.mono (h : MapI P k e w b n F) {m : Nat} (hm : n ≤ m) : MapI P k e w b m F := by
  obtain ⟨D, h1, h2⟩ := h
  exact ⟨D, h1.mono hm, h2⟩
theorem MapI.lt (h : MapI P k e w b n F) : b < w.heap.size := by obtain ⟨D, h1, _⟩ := h; exact h1.lt
theorem MapI.look (h : MapI P k e w b n F) (ht : P.underlying t = some (.map k e)) (hk : P.underlying k = some (.int .i64)) (he : P.underlying e = some (.int .i64)) (hz : (zeroValue e).run P w = .ok (.int .i64 0) w) (c : Int) (hc : (Lit.int .i64 c).wf = true) :
    (Instr.lookup t (.map (some b)) (.int .i64 c) false).run P w = .ok (.int .i64 (F c)) w := by
  obtain ⟨D, h1, h2, h3⟩ := h
  obtain ⟨v, hrun, hat, _⟩ := h1.lookup_int (int_keyed hk) ht he hz (keyOf_int_mk hk hc)
  rw [h3 c] at hat
  simp only [DataW.lit.injEq, Lit.int.injEq, true_and] at hat
  rw [hrun, hat]
theorem MapI.store (h : MapI P k e w b n F) (ht : P.underlying t = some (.map k e)) (hk : P.underlying k = some (.int .i64)) (he : P.underlying e = some (.int .i64)) (hn : n < maxLen) (c v : Int) (hc : (Lit.int .i64 c).wf = true) (hv : (Lit.int .i64 v).wf = true) :
    ∃ w', (Instr.mapUpdate t (.map (some b)) (.int .i64 c) (.int .i64 v)).run P w = .ok () w' ∧ MapI P k e w' b (n + 1) (updI F c v) ∧ w.grownBy w' (some b) := by
  obtain ⟨D, h1, h2, h3⟩ := h
  obtain ⟨w', hrun, ho, hg⟩ := h1.update (int_keyed hk) ht hn (keyOf_int_mk hk hc) (plainElem_int he hv)
  refine ⟨w', hrun, ⟨_, ho, h2.put _ _, fun x => ?_⟩, hg⟩
  by_cases hxc : x = c
  · subst hxc
    rw [atKey_put_same h2 (i64_key x), updI_same]
  · rw [atKey_put_other (by intro h; injection h with h4 h5; exact hxc h5), updI_other _ _ _ _ hxc]
    exact h3 x
end
/-- a store, at the operation -/
theorem wpList_storeI {P : Program} (w : World) {ops : Array Oper} {rest : List Oper} {o : Oper} {a : Act} {Q : Exit → Act → World → Prop}
    (hg : o.guard = none) (m x v : Operand) (t : TypeId) (hop : o.op = Op.mapUpdate t m x v) (k e : TypeId) (ht : P.underlying t = some (.map k e)) (hk : P.underlying k = some (.int .i64)) (he : P.underlying e = some (.int .i64))
    (b n : Nat) (F : Int → Int) (hm : a.eval m = .map (some b)) (h : MapI P k e w b n F) (hn : n < maxLen) (c y : Int) (hx : a.eval x = .int .i64 c) (hv : a.eval v = .int .i64 y) (hcw : (Lit.int .i64 c).wf = true) (hyw : (Lit.int .i64 y).wf = true)
    (hK : ∀ w', MapI P k e w' b (n + 1) (updI F c y) → w.grownBy w' (some b) → wpList P ops Q rest (a.put o.dst undef) w') :
    wpList P ops Q (o :: rest) a w := by
  refine wpList_plain hg fun K' hK' => ?_
  obtain ⟨w', hrun, r1, r2⟩ := h.store ht hk he hn c y hcw hyw
  unfold Oper.wp
  simp [execOp, hop, hm, hx, hv, hrun, Result.andThen]
  exact hK' _ _ (hK w' r1 r2)
theorem i64_wf (c : Int) (h0 : -9223372036854775808 ≤ c) (h1 : c ≤ 9223372036854775807) : (Lit.int .i64 c).wf = true := by
  have e1 : IntKind.i64.min = -9223372036854775808 := rfl
  have e2 : IntKind.i64.max = 9223372036854775807 := rfl
  simp [Lit.wf, e1, e2]
  omega
end Go.Proofs.Ytkahceijhokmoaa
