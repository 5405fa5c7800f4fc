/- A map of the call's own from pairs of ints to ints, as a function of both. No program in sight. -/
import Derived.Test.YtenhblpegobbjaaMapI
import Derived.Maps.OwnSet
import Derived.WideKeyPair
namespace Go.Proofs.Ytenhblpegobbjaa
open Go Go.RowKit Go.Maps Go.WideElems Go.ChangeMaps Go.WideMaps
set_option linter.unusedVariables false
set_option linter.unusedSimpArgs false
/-- a function of two numbers that is another at one pair -/
def updP (F : Nat → Nat → Option Nat) (a c v : Nat) : Nat → Nat → Option Nat := fun x y => if x = a ∧ y = c then some v else F x y
def litP (a c : Nat) : Lit := .string (keyBytes [.int .i64 (a : Int), .int .i64 (c : Int)])
/-- block b is a map of the call's own, of at most n entries: at the key (a, c) the number F a c stands -/
def MapP (P : Program) (k e : TypeId) (w : World) (b n : Nat) (F : Nat → Nat → Option Nat) : Prop :=
  ∃ D : DataW Unit, w.ownsMap P k (plainElem P e) b n D ∧ IsMap D ∧ ∀ a c : Nat, a ≤ 4611686018427387904 → c ≤ 4611686018427387904 → Maps.has D (litP a c) = (F a c).isSome ∧ D.atKey (litP a c) (.lit (.int .i64 0)) = .lit (.int .i64 (((F a c).getD 0 : Nat) : Int))
section
variable {P : Program} {t k e q : TypeId} {w : World} {b n : Nat} {F : Nat → Nat → Option Nat}
theorem nat_wf (c : Nat) (h1 : c ≤ 4611686018427387904) : (Lit.int .i64 (c : Int)).wf = true := i64_wf _ (by omega) (by omega)
theorem litP_key (a c : Nat) : WideAt.IsKeyLit (litP a c) := by unfold WideAt.IsKeyLit litP; trivial
theorem MapP.made (w : World) : MapP P k e (w.alloc (.map #[] 0)) w.heap.size 0 (fun _ _ => none) :=
  ⟨.map [], World.ownsMap_made _ _ _ _, isMap_empty, fun a c _ _ => ⟨rfl, rfl⟩⟩
theorem MapP.kept {w' : World} {row : Option Nat} (h : MapP P k e w b n F) (hg : w.grownBy w' row) (hne : some b ≠ row) : MapP P k e w' b n F := by
  obtain ⟨D, h1, h2⟩ := h
  exact ⟨D, h1.kept hg hne, h2⟩
theorem MapP.drewN (h : MapP P k e w b n F) (m : Nat) : MapP P k e (w.drewN m) b n F := h
theorem MapP.drew (h : MapP P k e w b n F) : MapP P k e w.drew b n F := h
theorem MapP.mono (h : MapP P k e w b n F) {m : Nat} (hm : n ≤ m) : MapP P k e w b m F := by
  obtain ⟨D, h1, h2⟩ := h
  exact ⟨D, h1.mono hm, h2⟩
theorem MapP.lt (h : MapP P k e w b n F) : b < w.heap.size := by obtain ⟨D, h1, _⟩ := h; exact h1.lt
theorem MapP.look (h : MapP P k e w b n F) (A : ArrKey P k q 2) (hq : P.underlying q = some (.int .i64)) (hsz : ∃ m, P.types.size = m + 1) (ht : P.underlying t = some (.map k e)) (he : P.underlying e = some (.int .i64)) (hz : (zeroValue e).run P w = .ok (.int .i64 0) w) (a c : Nat) (ha : a ≤ 4611686018427387904) (hc : c ≤ 4611686018427387904) :
    (Instr.lookup t (.map (some b)) (.agg #[.int .i64 (a : Int), .int .i64 (c : Int)]) true).run P w = .ok (.tuple #[.int .i64 (((F a c).getD 0 : Nat) : Int), .bool (F a c).isSome]) w := by
  obtain ⟨D, h1, h2, h3⟩ := h
  obtain ⟨v, ps, hrun, hv⟩ := h1.look_ok (Keyed.of_law A.law) ht hz (plainElem_int he (nat_wf 0 (by omega))) (keyOf_pair A hq hsz (nat_wf a ha) (nat_wf c hc))
  obtain ⟨x, rfl, hx, hwx⟩ := plainElem_int_inv he hv
  obtain ⟨h4, h5⟩ := h3 a c ha hc
  unfold litP at h4 h5
  have h6 := congrArg Prod.fst hx
  simp only at h6
  rw [h5] at h6
  simp only [DataW.lit.injEq, Lit.int.injEq, true_and] at h6
  rw [hrun, h4, h6]
theorem litP_inj (A : ArrKey P k q 2) (hq : P.underlying q = some (.int .i64)) (hsz : ∃ m, P.types.size = m + 1) (a c a' c' : Nat) (ha : a ≤ 4611686018427387904) (hc : c ≤ 4611686018427387904) (ha' : a' ≤ 4611686018427387904) (hc' : c' ≤ 4611686018427387904) (h : litP a c = litP a' c') : a = a' ∧ c = c' := by
  have h1 := keyOf_pair A hq hsz (nat_wf a ha) (nat_wf c hc)
  have h2 := keyOf_pair A hq hsz (nat_wf a' ha') (nat_wf c' hc')
  have h3 := A.law.inj h1 (by rw [h2]; unfold litP at h; rw [h])
  simp at h3
  omega
theorem MapP.store (h : MapP P k e w b n F) (A : ArrKey P k q 2) (hq : P.underlying q = some (.int .i64)) (hsz : ∃ m, P.types.size = m + 1) (ht : P.underlying t = some (.map k e)) (he : P.underlying e = some (.int .i64)) (hn : n < maxLen) (a c v : Nat) (ha : a ≤ 4611686018427387904) (hc : c ≤ 4611686018427387904) (hv : v ≤ 4611686018427387904) :
    ∃ w', (Instr.mapUpdate t (.map (some b)) (.agg #[.int .i64 (a : Int), .int .i64 (c : Int)]) (.int .i64 (v : Int))).run P w = .ok () w' ∧ MapP P k e w' b (n + 1) (updP F a c v) ∧ w.grownBy w' (some b) := by
  obtain ⟨D, h1, h2, h3⟩ := h
  obtain ⟨w', hrun, ho, hg⟩ := h1.update (Keyed.of_law A.law) ht hn (keyOf_pair A hq hsz (nat_wf a ha) (nat_wf c hc)) (plainElem_int he (nat_wf v hv))
  refine ⟨w', hrun, ⟨_, ho, h2.put _ _, fun x y hx hy => ?_⟩, hg⟩
  show Maps.has (D.put (litP a c) _) (litP x y) = _ ∧ (D.put (litP a c) _).atKey (litP x y) _ = _
  by_cases hxc : x = a ∧ y = c
  · obtain ⟨rfl, rfl⟩ := hxc
    rw [has_put_same h2 (litP_key x y), atKey_put_same h2 (litP_key x y)]
    simp [updP]
  · have hne : litP x y ≠ litP a c := fun h => hxc (litP_inj A hq hsz x y a c hx hy ha hc h)
    rw [has_put_other hne, atKey_put_other hne]
    unfold updP
    rw [if_neg hxc]
    exact h3 x y hx hy
end
/-- a store, at the operation -/
theorem wpList_storeP {P : Program} (w : World) {ops : Array Oper} {rest : List Oper} {o : Oper} {a : Act} {Q : Exit → Act → World → Prop}
    (hg : o.guard = none) (m x v : Operand) (t : TypeId) (hop : o.op = Op.mapUpdate t m x v) (k e q : TypeId) (A : ArrKey P k q 2) (hq : P.underlying q = some (.int .i64)) (hsz : ∃ m, P.types.size = m + 1) (ht : P.underlying t = some (.map k e)) (he : P.underlying e = some (.int .i64))
    (b n : Nat) (F : Nat → Nat → Option Nat) (hm : a.eval m = .map (some b)) (h : MapP P k e w b n F) (hn : n < maxLen) (c d y : Nat) (hx : a.eval x = .agg #[.int .i64 (c : Int), .int .i64 (d : Int)]) (hv : a.eval v = .int .i64 (y : Int)) (hc : c ≤ 4611686018427387904) (hd : d ≤ 4611686018427387904) (hy : y ≤ 4611686018427387904)
    (hK : ∀ w', MapP P k e w' b (n + 1) (updP F c d y) → w.grownBy w' (some b) → wpList P ops Q rest (a.put o.dst undef) w') :
    wpList P ops Q (o :: rest) a w := by
  refine wpList_plain hg fun K' hK' => ?_
  obtain ⟨w', hrun, r1, r2⟩ := h.store A hq hsz ht he hn c d y hc hd hy
  unfold Oper.wp
  simp [execOp, hop, hm, hx, hv, hrun, Result.andThen]
  exact hK' _ _ (hK w' r1 r2)
end Go.Proofs.Ytenhblpegobbjaa
