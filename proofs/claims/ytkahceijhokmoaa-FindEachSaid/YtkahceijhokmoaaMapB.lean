/- A map of the call's own from bytes to ints, as a function of the byte. No program in sight. -/
import Derived.Test.YtkahceijhokmoaaMapI
import Derived.Maps.OwnSet
namespace Go.Proofs.Ytkahceijhokmoaa
open Go Go.RowKit Go.Maps Go.WideElems Go.ChangeMaps Go.WideMaps
set_option linter.unusedVariables false
set_option linter.unusedSimpArgs false
def updB (F : Nat → Option Nat) (c v : Nat) : Nat → Option Nat := fun x => if x = c then some v else F x
/-- block b is a map of the call's own, of at most n entries: at the byte c the number F c stands -/
def MapB (P : Program) (k e : TypeId) (w : World) (b n : Nat) (F : Nat → Option Nat) : Prop :=
  ∃ D : DataW Unit, w.ownsMap P k (plainElem P e) b n D ∧ IsMap D ∧ ∀ c : Nat, c < 256 → Maps.has D (.int .u8 (c : Int)) = (F c).isSome ∧ D.atKey (.int .u8 (c : Int)) (.lit (.int .i64 0)) = .lit (.int .i64 (((F c).getD 0 : Nat) : Int))
section
variable {P : Program} {t k e : TypeId} {w : World} {b n : Nat} {F : Nat → Option Nat}
theorem u8_key (c : Nat) : WideAt.IsKeyLit (.int .u8 (c : Int)) := by unfold WideAt.IsKeyLit; trivial
theorem u8_wf (c : Nat) (h : c < 256) : (Lit.int .u8 (c : Int)).wf = true := by
  have e1 : IntKind.u8.min = 0 := rfl
  have e2 : IntKind.u8.max = 255 := rfl
  simp [Lit.wf, e1, e2]
  omega
theorem nat_wf' (c : Nat) (h1 : c ≤ 4611686018427387904) : (Lit.int .i64 (c : Int)).wf = true := i64_wf _ (by omega) (by omega)
theorem MapB.made (w : World) : MapB P k e (w.alloc (.map #[] 0)) w.heap.size 0 (fun _ => none) :=
  ⟨.map [], World.ownsMap_made _ _ _ _, isMap_empty, fun c _ => ⟨rfl, rfl⟩⟩
theorem MapB.kept {w' : World} {row : Option Nat} (h : MapB P k e w b n F) (hg : w.grownBy w' row) (hne : some b ≠ row) : MapB P k e w' b n F := by
  obtain ⟨D, h1, h2⟩ := h
  exact ⟨D, h1.kept hg hne, h2⟩
theorem MapB.congr {G : Nat → Option Nat} (h : MapB P k e w b n F) (hg : ∀ c, c < 256 → F c = G c) : MapB P k e w b n G := by
  obtain ⟨D, h1, h2, h3⟩ := h
  exact ⟨D, h1, h2, fun c hc => by rw [← hg c hc]; exact h3 c hc⟩
theorem MapB.mono (h : MapB P k e w b n F) {m : Nat} (hm : n ≤ m) : MapB P k e w b m F := by
  obtain ⟨D, h1, h2⟩ := h
  exact ⟨D, h1.mono hm, h2⟩
theorem MapB.lt (h : MapB P k e w b n F) : b < w.heap.size := by obtain ⟨D, h1, _⟩ := h; exact h1.lt
theorem MapB.drew (h : MapB P k e w b n F) : MapB P k e w.drew b n F := h
theorem MapB.drewN (h : MapB P k e w b n F) (m : Nat) : MapB P k e (w.drewN m) b n F := h
theorem MapB.look (h : MapB P k e w b n F) (hk : P.underlying k = some (.int .u8)) (ht : P.underlying t = some (.map k e)) (he : P.underlying e = some (.int .i64)) (hz : (zeroValue e).run P w = .ok (.int .i64 0) w) (c : Nat) (hc : c < 256) :
    (Instr.lookup t (.map (some b)) (.int .u8 (c : Int)) true).run P w = .ok (.tuple #[.int .i64 (((F c).getD 0 : Nat) : Int), .bool (F c).isSome]) w := by
  obtain ⟨D, h1, h2, h3⟩ := h
  obtain ⟨v, ps, hrun, hv⟩ := h1.look_ok (int_keyed hk) ht hz (plainElem_int he (nat_wf' 0 (by omega))) (keyOf_int_mk hk (u8_wf c hc))
  obtain ⟨x, rfl, hx, hwx⟩ := plainElem_int_inv he hv
  obtain ⟨h4, h5⟩ := h3 c hc
  have h6 := congrArg Prod.fst hx
  simp only at h6
  rw [h5] at h6
  simp only [DataW.lit.injEq, Lit.int.injEq, true_and] at h6
  rw [hrun, h4, h6]
theorem MapB.store (h : MapB P k e w b n F) (hk : P.underlying k = some (.int .u8)) (ht : P.underlying t = some (.map k e)) (he : P.underlying e = some (.int .i64)) (hn : n < maxLen) (c v : Nat) (hc : c < 256) (hv : v ≤ 4611686018427387904) :
    ∃ w', (Instr.mapUpdate t (.map (some b)) (.int .u8 (c : Int)) (.int .i64 (v : Int))).run P w = .ok () w' ∧ MapB P k e w' b (n + 1) (updB F c v) ∧ w.grownBy w' (some b) := by
  obtain ⟨D, h1, h2, h3⟩ := h
  obtain ⟨w', hrun, ho, hg⟩ := h1.update (int_keyed hk) ht hn (keyOf_int_mk hk (u8_wf c hc)) (plainElem_int he (nat_wf' v hv))
  refine ⟨w', hrun, ⟨_, ho, h2.put _ _, fun x hx => ?_⟩, hg⟩
  show Maps.has (D.put (.int .u8 (c : Int)) _) (.int .u8 (x : Int)) = _ ∧ (D.put (.int .u8 (c : Int)) _).atKey (.int .u8 (x : Int)) _ = _
  by_cases hxc : x = c
  · subst hxc
    rw [has_put_same h2 (u8_key x), atKey_put_same h2 (u8_key x)]
    simp [updB]
  · have hne : (Lit.int .u8 (x : Int)) ≠ .int .u8 (c : Int) := fun h => by injection h with h4 h5; omega
    rw [has_put_other hne, atKey_put_other hne]
    unfold updB
    rw [if_neg hxc]
    exact h3 x hx
end
/-- a store, at the operation -/
theorem wpList_storeB {P : Program} (w : World) {ops : Array Oper} {rest : List Oper} {o : Oper} {a : Act} {Q : Exit → Act → World → Prop}
    (hg : o.guard = none) (m x v : Operand) (t : TypeId) (hop : o.op = Op.mapUpdate t m x v) (k e : TypeId) (ht : P.underlying t = some (.map k e)) (hk : P.underlying k = some (.int .u8)) (he : P.underlying e = some (.int .i64))
    (b n : Nat) (F : Nat → Option Nat) (hm : a.eval m = .map (some b)) (h : MapB P k e w b n F) (hn : n < maxLen) (c y : Nat) (hx : a.eval x = .int .u8 (c : Int)) (hv : a.eval v = .int .i64 (y : Int)) (hc : c < 256) (hy : y ≤ 4611686018427387904)
    (hK : ∀ w', MapB P k e w' b (n + 1) (updB F c y) → w.grownBy w' (some b) → wpList P ops Q rest (a.put o.dst undef) w') :
    wpList P ops Q (o :: rest) a w := by
  refine wpList_plain hg fun K' hK' => ?_
  obtain ⟨w', hrun, r1, r2⟩ := h.store hk ht he hn c y hc hy
  unfold Oper.wp
  simp [execOp, hop, hm, hx, hv, hrun, Result.andThen]
  exact hK' _ _ (hK w' r1 r2)
end Go.Proofs.Ytkahceijhokmoaa
