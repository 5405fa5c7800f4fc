/- A map of the call's own from names to ints, as a set: 1 at what is in it. No program in sight. -/
import Derived.Maps.Own
import Derived.Maps.OwnSet
import Derived.OpenShut
import Derived.Maps.OwnOps
import Derived.WideKeyEntry
import Derived.StringKeys
import Derived.Test.YtlomecfhobehnaaGreatDoorMgLayoutBack9
import Derived.Test.YtlomecfhobehnaaGreatDoorMgLayoutBack10
import Derived.Test.YtlomecfhobehnaaGreatDoorMgLayoutBack0
import Derived.Test.YtlomecfhobehnaaGreatDoorMgLayoutBack4
section
/- Contract of expr.Eval. -/
namespace Go.Proofs.YtlomecfhobehnaaGreatDoor
open Go.RowKit
set_option linter.unusedVariables false
set_option linter.unusedSimpArgs false
open Rd
open Ex (X levels)
/-- names that are numbers: a map that came in -/
structure NamesAt (w : World) (mv : Value) (N : Ex.Names) (n : Nat) : Prop where
  look : ∀ W, Below w.heap.size w W → ∀ s : List UInt8, s.length ≤ 1000 → (Instr.lookup 103 mv (.string (bstr s)) true).run Tryz.prog W = .ok (.tuple #[.int .i64 ((N s).getD 0), .bool (N s).isSome]) W
  rng : ∀ s v, N s = some v → Ex.InR v
  len : ∀ W, Below w.heap.size w W → (Builtin.len_ #[103] 3 #[mv]).run Tryz.prog W = .ok (.int .i64 (n : Nat)) W
/-- how Eval ends -/
def EvPost (w : World) (r : Option Int) (e : Ending) (w' : World) : Prop := Below w.heap.size w w' ∧ match r with
  | some v => e = .returned (.tuple #[.int .i64 v, .nilIface])
  | none => ∃ g p, e = .returned (.tuple #[.int .i64 0, .iface 120 (.pointer (some ⟨g, 0, none⟩))]) ∧ RowAt w' g 0 122 [.int .i64 5, .int .i64 (p : Nat)]
def EvalC (w0 : World) (mv : Value) (N : Ex.Names) (x : X) : Prop := ∀ (w : World) (rb b : Nat), Below w0.heap.size w0 w → IsX w rb b x →
  Calls Tryz.prog 94 #[.pointer (some ⟨b, 0, none⟩), mv] w (EvPost w (Ex.ev N x))
set_option maxRecDepth 100000 in
theorem Eval_num (w0 : World) (mv : Value) (N : Ex.Names) (a n : Nat) : EvalC w0 mv N (.num a n) := by
  intro w rb b hb hx
  have c0 := hx.2.cell0 0 (by simp)
  have c2 := hx.2.cell0 2 (by simp)
  simp only [List.getElem_cons_zero, List.getElem_cons_succ] at c0 c2
  clear hx
  go_enter Tryz.func94, Tryz.ntmps94
  go_wp2_with fail
  go_ret2
  exact ⟨Below.refl _ _, rfl⟩
set_option maxRecDepth 100000 in
set_option maxHeartbeats 1000000 in
theorem Eval_name (w0 : World) (mv : Value) (N : Ex.Names) (n a : Nat) (s : List UInt8) (hs : s.length ≤ 12) (hN : NamesAt w0 mv N n) : EvalC w0 mv N (.name a s) := by
  intro w rb b hb hx
  have c0 := hx.2.cell0 0 (by simp)
  have c1 := hx.2.cell0 1 (by simp)
  have c3 := hx.2.cell0 3 (by simp)
  simp only [List.getElem_cons_zero, List.getElem_cons_succ] at c0 c1 c3
  have hlk := hN.look w hb s (by omega)
  have hev : Ex.ev N (.name a s) = N s := rfl
  rw [hev]
  clear hx hN hb hev
  cases h : N s with
  | some v =>
    rw [h] at hlk
    simp only [Option.getD_some, Option.isSome_some] at hlk
    clear h
    go_enter Tryz.func94, Tryz.ntmps94
    go_wp2_with fail
    go_ret2
    exact ⟨Below.refl _ _, rfl⟩
  | none =>
    rw [h] at hlk
    simp only [Option.getD_none, Option.isSome_none] at hlk
    clear h
    go_enter Tryz.func94, Tryz.ntmps94
    go_wp2_with fail
    go_region
    all_goals
      go_wp2_with fail
      go_ret2
      exact ⟨((Below.refl _ w).alloc (Nat.le_refl _) _).drew, _, a, rfl, (RowAt.new w 122 #[.int .i64 5, .int .i64 (a : Nat)]).drew⟩
set_option maxRecDepth 100000 in
theorem truth_any (c : Bool) (w : World) : Calls Tryz.prog 119 #[.bool c] w fun e w' => e = .returned (.int .i64 (Ex.truth c)) ∧ w' = w := by
  cases c <;>
  · go_enter Tryz.func119, Tryz.ntmps119
    go_wp2_with fail
    go_ret
    exact ⟨rfl, rfl⟩
theorem wrap_eq (z : Int) : Ex.wrapI z = wrap64 z := by
  unfold Ex.wrapI wrap64
  rw [IntKind.wrap_i64]
theorem opv_add (u v : Int) : Ex.opv [43] u v = wrap64 (u + v) := by
  show Ex.wrapI (u + v) = _
  exact wrap_eq _
theorem opv_sub (u v : Int) : Ex.opv [45] u v = wrap64 (u - v) := by
  show Ex.wrapI (u - v) = _
  exact wrap_eq _
theorem opv_mul (u v : Int) : Ex.opv [42] u v = wrap64 (u * v) := by
  show Ex.wrapI (u * v) = _
  exact wrap_eq _
/-- a node's cells -/
structure NodeAt (w : World) (b bl br : Nat) (op : List UInt8) : Prop where
  c0 : w.cell? ⟨b, 0, none⟩ = some (.int .i64 3)
  c4 : w.cell? ⟨b, 4, none⟩ = some (.string (bstr op))
  c5 : w.cell? ⟨b, 5, none⟩ = some (.pointer (some ⟨bl, 0, none⟩))
  c6 : w.cell? ⟨b, 6, none⟩ = some (.pointer (some ⟨br, 0, none⟩))
  lt : b < w.heap.size
theorem NodeAt.below {w w' : World} {b bl br : Nat} {op : List UInt8} (h : NodeAt w b bl br op) (hb : Below w.heap.size w w') : NodeAt w' b bl br op :=
  ⟨(hb.cell (p := ⟨b, 0, none⟩) h.lt).trans h.c0, (hb.cell (p := ⟨b, 4, none⟩) h.lt).trans h.c4, (hb.cell (p := ⟨b, 5, none⟩) h.lt).trans h.c5, (hb.cell (p := ⟨b, 6, none⟩) h.lt).trans h.c6, Nat.lt_of_lt_of_le h.lt hb.size⟩
theorem nodeAt {w : World} {rb b a : Nat} {op : List UInt8} {l r : X} (h : IsX w rb b (.bin a op l r)) : ∃ bl br, NodeAt w b bl br op ∧ IsX w rb bl l ∧ IsX w rb br r := by
  obtain ⟨bl, br, h1, h2, h3, h4⟩ := h
  exact ⟨bl, br, ⟨h2.cell0 0 (by simp), h2.cell0 4 (by simp), h2.cell0 5 (by simp), h2.cell0 6 (by simp), h2.lt⟩, h3, h4⟩
set_option maxRecDepth 100000 in
set_option maxHeartbeats 1000000 in
theorem Eval_left (w0 : World) (mv : Value) (N : Ex.Names) (a : Nat) (op : List UInt8) (l r : X) (hl : EvalC w0 mv N l) (hn : Ex.ev N l = none) : EvalC w0 mv N (.bin a op l r) := by
  intro w rb b hb hx
  obtain ⟨bl, br, hnode, hxl, hxr⟩ := nodeAt hx
  have hL := hl w rb bl hb hxl
  rw [hn] at hL
  unfold EvPost at hL
  have HL := Lib.hid hL
  have c0 := hnode.c0; have c5 := hnode.c5
  have hev : Ex.ev N (.bin a op l r) = none := by unfold Ex.ev; rw [hn]; rfl
  rw [hev]
  clear hx hL hxl hxr hnode hev hn hl
  go_enter Tryz.func94, Tryz.ntmps94
  go_wp2_with fail
  refine HL.out.mono ?_
  rintro e w1 ⟨hb1, g, p, rfl, hrow⟩
  go_wp2_with fail
  go_ret2
  exact ⟨hb1, g, p, rfl, hrow⟩
set_option maxRecDepth 100000 in
set_option maxHeartbeats 1000000 in
theorem Eval_right (w0 : World) (mv : Value) (N : Ex.Names) (a : Nat) (op : List UInt8) (l r : X) (u : Int) (hl : EvalC w0 mv N l) (hr : EvalC w0 mv N r) (hu : Ex.ev N l = some u) (hn : Ex.ev N r = none) : EvalC w0 mv N (.bin a op l r) := by
  intro w rb b hb hx
  obtain ⟨bl, br, hnode, hxl, hxr⟩ := nodeAt hx
  have hL := hl w rb bl hb hxl
  rw [hu] at hL
  unfold EvPost at hL
  have HL := Lib.hid hL
  have hR : ∀ W, Below w.heap.size w W → Calls Tryz.prog 94 #[.pointer (some ⟨br, 0, none⟩), mv] W (EvPost W none) := fun W hW => by
    have := hr W rb br (hb.trans (hW.mono hb.size)) (IsX.grown (below_grown hW _) r br hxr)
    rwa [hn] at this
  unfold EvPost at hR
  have HR := Lib.hid hR
  have HN := Lib.hid hnode
  have c0 := hnode.c0; have c5 := hnode.c5
  have hev : Ex.ev N (.bin a op l r) = none := by unfold Ex.ev; rw [hu, hn]; rfl
  rw [hev]
  clear hx hL hxl hxr hnode hev hn hl hr hu hR
  go_enter Tryz.func94, Tryz.ntmps94
  go_wp2_with fail
  refine HL.out.mono ?_
  rintro e w1 ⟨hb1, rfl⟩
  have c6 := (HN.out.below hb1).c6
  have HB1 := Lib.hid hb1
  clear hb1
  go_wp2_with fail
  refine (HR.out w1 HB1.out).mono ?_
  rintro e w2 ⟨hb2, g, p, rfl, hrow⟩
  go_wp2_with fail
  go_ret2
  exact ⟨HB1.out.trans (hb2.mono HB1.out.size), g, p, rfl, hrow⟩
set_option maxRecDepth 100000 in
set_option maxHeartbeats 1000000 in
theorem Eval_both (w0 : World) (mv : Value) (N : Ex.Names) (a : Nat) (op : List UInt8) (l r : X) (u v : Int) (hop : Ex.opLevel op < 3) (hl : EvalC w0 mv N l) (hr : EvalC w0 mv N r) (hu : Ex.ev N l = some u) (hv : Ex.ev N r = some v) : EvalC w0 mv N (.bin a op l r) := by
  intro w rb b hb hx
  obtain ⟨bl, br, hnode, hxl, hxr⟩ := nodeAt hx
  have hL := hl w rb bl hb hxl
  rw [hu] at hL
  unfold EvPost at hL
  have HL := Lib.hid hL
  have hR : ∀ W, Below w.heap.size w W → Calls Tryz.prog 94 #[.pointer (some ⟨br, 0, none⟩), mv] W (EvPost W (some v)) := fun W hW => by
    have := hr W rb br (hb.trans (hW.mono hb.size)) (IsX.grown (below_grown hW _) r br hxr)
    rwa [hv] at this
  unfold EvPost at hR
  have HR := Lib.hid hR
  have HN := Lib.hid hnode
  have c0 := hnode.c0; have c5 := hnode.c5
  have hev : Ex.ev N (.bin a op l r) = some (Ex.opv op u v) := by unfold Ex.ev; rw [hu, hv]; rfl
  rw [hev]
  have HTR := Lib.hid (fun c w => truth_any c w)
  have hm : op ∈ levels 0 ∨ op ∈ levels 1 ∨ op ∈ levels 2 := by
    have := Ex.level_of op hop
    rcases (by omega : Ex.opLevel op = 0 ∨ Ex.opLevel op = 1 ∨ Ex.opLevel op = 2) with h | h | h <;> rw [h] at this
    · exact .inl this
    · exact .inr (.inl this)
    · exact .inr (.inr this)
  clear hx hL hxl hxr hnode hev hl hr hu hR hv hop
  have hcase : op = [61, 61] ∨ op = [33, 61] ∨ op = [60] ∨ op = [62] ∨ op = [43] ∨ op = [45] ∨ op = [124] ∨ op = [42] ∨ op = [38] := by
    simp only [levels, List.mem_cons, List.not_mem_nil, or_false] at hm
    rcases hm with (h | h | h | h) | (h | h | h) | (h | h) <;> simp [h]
  clear hm
  rcases hcase with rfl | rfl | rfl | rfl | rfl | rfl | rfl | rfl | rfl
  all_goals
    go_enter Tryz.func94, Tryz.ntmps94
    go_wp2_with fail
    refine HL.out.mono ?_
    rintro e w1 ⟨hb1, rfl⟩
    have c6 := (HN.out.below hb1).c6
    have HB1 := Lib.hid hb1
    clear hb1
    go_wp2_with fail
    refine (HR.out w1 HB1.out).mono ?_
    rintro e w2 ⟨hb2, rfl⟩
    have c4 := ((HN.out.below HB1.out).below hb2).c4
    have HB2 := Lib.hid (HB1.out.trans (hb2.mono HB1.out.size))
    clear hb2
    go_wp2_with fail
    try (refine (HTR.out _ _).mono ?_; rintro e w3 ⟨rfl, rfl⟩; go_wp2_with fail)
    go_ret2
    exact ⟨HB2.out, by first | rfl | (rw [opv_add]; rfl) | (rw [opv_sub]; rfl) | (rw [opv_mul]; rfl)⟩
theorem Eval_x (w0 : World) (mv : Value) (N : Ex.Names) (n : Nat) (hN : NamesAt w0 mv N n) : ∀ x : X, Ex.Fine Num.numOf Num.dec x → EvalC w0 mv N x
  | .num a k, _ => Eval_num w0 mv N a k
  | .name a s, h => Eval_name w0 mv N n a s h.2.1 hN
  | .bin a op l r, h => by
    have hl := Eval_x w0 mv N n hN l h.2.1
    have hr := Eval_x w0 mv N n hN r h.2.2
    cases e1 : Ex.ev N l with
    | none => exact Eval_left w0 mv N a op l r hl e1
    | some u =>
      cases e2 : Ex.ev N r with
      | none => exact Eval_right w0 mv N a op l r u hl hr e1 e2
      | some v => exact Eval_both w0 mv N a op l r u v h.1 hl hr e1 e2
end Go.Proofs.YtlomecfhobehnaaGreatDoor
end
section
/- Names as a map; the fact reckoned. -/
namespace Go.Proofs.YtlomecfhobehnaaGreatDoor
open Go.RowKit
set_option linter.unusedVariables false
set_option linter.unusedSimpArgs false
open Rd
open Ex (X levels)
/-- the names of a datum -/
def nm {H : Type} (D : DataW H) : Ex.Names := fun s => if 1000 < s.length then none else match D.atKey (.string s) .nil with
  | .lit (.int _ a) => some a
  | _ => none
theorem names_own {H : Type} {w : World} {b n : Nat} {D : DataW H} (h : w.ownsMap Tryz.prog 9 (plainElem Tryz.prog 3) b n D) : ∃ k, k ≤ n ∧ NamesAt w (.map (some b)) (nm D) k := by
  obtain ⟨es, clock, hb, F, hs, hD⟩ := h
  have K := Maps.string_keyed (P := Tryz.prog) Tryz.underlying9
  have hblt : b < w.heap.size := (Array.getElem?_eq_some_iff.1 hb).1
  have hlook : ∀ W, Below w.heap.size w W → ∀ s : List UInt8, s.length ≤ 1000 → (Instr.lookup 103 (.map (some b)) (.string (bstr s)) true).run Tryz.prog W = .ok (.tuple #[.int .i64 ((nm D s).getD 0), .bool (nm D s).isSome]) W ∧ ∀ v, nm D s = some v → Ex.InR v := by
    intro W hW s hsl
    have hb' : W.heap[b]? = some (.map es clock) := (hW.block b hblt).trans hb
    have hz : (zeroValue 3).run Tryz.prog W = .ok (.int .i64 0) W := by kernel_rfl
    have hkey : keyOf Tryz.prog 9 (.string (bstr s)) = some (.string s) := WideMaps.keyOf_string_mk Tryz.underlying9 (by rw [bstr_size]; unfold maxLen; omega)
    rcases Maps.fit_look true K Tryz.underlying103 hz hb' F hkey with ⟨hrun, _, hat⟩ | ⟨e0, y, _, _, hrun, hRv, hat, _⟩
    · have hn : nm D s = none := by
        unfold nm
        rw [if_neg (by omega), hD, hat .nil]
      rw [hn]
      exact ⟨hrun, fun v e => by cases e⟩
    · obtain ⟨a, ha, hy, hwf⟩ := plainElem_int_inv Tryz.underlying3 hRv
      have hn : nm D s = some a := by
        unfold nm
        rw [if_neg (by omega), hD, hat .nil, hy]
      rw [hn]
      rw [ha] at hrun
      refine ⟨hrun, fun v e => ?_⟩
      cases e
      exact bounds_i64 hwf
  refine ⟨es.size, hs, fun W hW s hsl => (hlook W hW s hsl).1, fun s v e => ?_, fun W hW => ?_⟩
  · by_cases hl : 1000 < s.length
    · unfold nm at e; rw [if_pos hl] at e; cases e
    · exact (hlook w (Below.refl _ _) s (by omega)).2 v e
  · have hb' : W.heap[b]? = some (.map es clock) := (hW.block b hblt).trans hb
    exact run_len_map W 103 3 b es clock (by kernel_rfl) hb'
theorem namesAt_nil (w : World) : NamesAt w (.map none) (fun _ => none) 0 := by
  refine ⟨fun W hW s hs => ?_, fun s v e => (by cases e), fun W hW => ?_⟩
  · kernel_rfl
  · exact run_len_nilMap W 103 3 (by kernel_rfl)
end Go.Proofs.YtlomecfhobehnaaGreatDoor
end
section
/- A map of the call's own from ints to ints, as a function of the key. No program in sight. -/
namespace Go.Proofs.YtlomecfhobehnaaGreatDoor
open Go Go.RowKit Go.Maps Go.WideElems Go.ChangeMaps
set_option linter.unusedVariables false
set_option linter.unusedSimpArgs false
/-- a function of the integers that is another at one place -/
def updI (F : Int → Int) (c v : Int) : Int → Int := fun x => if x = c then v else F x
theorem updI_same (F : Int → Int) (c v : Int) : updI F c v c = v := if_pos rfl
theorem updI_other (F : Int → Int) (c x v : Int) (h : x ≠ c) : updI F c v x = F x := if_neg h
/-- block b is a map of the call's own, of at most n entries: at the key c the number F c stands -/
def MapI (P : Program) (k e : TypeId) (w : World) (b n : Nat) (F : Int → Int) : Prop :=
  ∃ D : DataW Unit, w.ownsMap P k (plainElem P e) b n D ∧ IsMap D ∧ ∀ c : Int, D.atKey (.int .i64 c) (.lit (.int .i64 0)) = .lit (.int .i64 (F c))
section
variable {P : Program} {t k e : TypeId} {w : World} {b n : Nat} {F : Int → Int}
theorem i64_key (c : Int) : WideAt.IsKeyLit (.int .i64 c) := by unfold WideAt.IsKeyLit; trivial
theorem MapI.made (w : World) : MapI P k e (w.alloc (.map #[] 0)) w.heap.size 0 (fun _ => 0) :=
  ⟨.map [], World.ownsMap_made _ _ _ _, isMap_empty, fun c => rfl⟩
theorem MapI.kept {w' : World} {row : Option Nat} (h : MapI P k e w b n F) (hg : w.grownBy w' row) (hne : some b ≠ row) : MapI P k e w' b n F := by
  obtain ⟨D, h1, h2⟩ := h
  exact ⟨D, h1.kept hg hne, h2⟩
theorem MapI.drewN (h : MapI P k e w b n F) (m : Nat) : MapI P k e (w.drewN m) b n F := h
theorem MapI.drew (h : MapI P k e w b n F) : MapI P k e w.drew b n F := h
theorem MapI.mono (h : MapI P k e w b n F) {m : Nat} (hm : n ≤ m) : MapI P k e w b m F := by
  obtain ⟨D, h1, h2⟩ := h
  exact ⟨D, h1.mono hm, h2⟩
theorem MapI.lt (h : MapI P k e w b n F) : b < w.heap.size := by obtain ⟨D, h1, _⟩ := h; exact h1.lt
theorem MapI.look (h : MapI P k e w b n F) (ht : P.underlying t = some (.map k e)) (hk : P.underlying k = some (.int .i64)) (he : P.underlying e = some (.int .i64)) (hz : (zeroValue e).run P w = .ok (.int .i64 0) w) (c : Int) (hc : (Lit.int .i64 c).wf = true) :
    (Instr.lookup t (.map (some b)) (.int .i64 c) false).run P w = .ok (.int .i64 (F c)) w := by
  obtain ⟨D, h1, h2, h3⟩ := h
  obtain ⟨v, hrun, hat, _⟩ := h1.lookup_int (int_keyed hk) ht he hz (keyOf_int_mk hk hc)
  rw [h3 c] at hat
  simp only [DataW.lit.injEq, Lit.int.injEq, true_and] at hat
  rw [hrun, hat]
theorem MapI.store (h : MapI P k e w b n F) (ht : P.underlying t = some (.map k e)) (hk : P.underlying k = some (.int .i64)) (he : P.underlying e = some (.int .i64)) (hn : n < maxLen) (c v : Int) (hc : (Lit.int .i64 c).wf = true) (hv : (Lit.int .i64 v).wf = true) :
    ∃ w', (Instr.mapUpdate t (.map (some b)) (.int .i64 c) (.int .i64 v)).run P w = .ok () w' ∧ MapI P k e w' b (n + 1) (updI F c v) ∧ w.grownBy w' (some b) := by
  obtain ⟨D, h1, h2, h3⟩ := h
  obtain ⟨w', hrun, ho, hg⟩ := h1.update (int_keyed hk) ht hn (keyOf_int_mk hk hc) (plainElem_int he hv)
  refine ⟨w', hrun, ⟨_, ho, h2.put _ _, fun x => ?_⟩, hg⟩
  by_cases hxc : x = c
  · subst hxc
    rw [atKey_put_same h2 (i64_key x), updI_same]
  · rw [atKey_put_other (by intro h; injection h with h4 h5; exact hxc h5), updI_other _ _ _ _ hxc]
    exact h3 x
end
/-- a store, at the operation -/
theorem wpList_storeI {P : Program} (w : World) {ops : Array Oper} {rest : List Oper} {o : Oper} {a : Act} {Q : Exit → Act → World → Prop}
    (hg : o.guard = none) (m x v : Operand) (t : TypeId) (hop : o.op = Op.mapUpdate t m x v) (k e : TypeId) (ht : P.underlying t = some (.map k e)) (hk : P.underlying k = some (.int .i64)) (he : P.underlying e = some (.int .i64))
    (b n : Nat) (F : Int → Int) (hm : a.eval m = .map (some b)) (h : MapI P k e w b n F) (hn : n < maxLen) (c y : Int) (hx : a.eval x = .int .i64 c) (hv : a.eval v = .int .i64 y) (hcw : (Lit.int .i64 c).wf = true) (hyw : (Lit.int .i64 y).wf = true)
    (hK : ∀ w', MapI P k e w' b (n + 1) (updI F c y) → w.grownBy w' (some b) → wpList P ops Q rest (a.put o.dst undef) w') :
    wpList P ops Q (o :: rest) a w := by
  refine wpList_plain hg fun K' hK' => ?_
  obtain ⟨w', hrun, r1, r2⟩ := h.store ht hk he hn c y hcw hyw
  unfold Oper.wp
  simp [execOp, hop, hm, hx, hv, hrun, Result.andThen]
  exact hK' _ _ (hK w' r1 r2)
theorem i64_wf (c : Int) (h0 : -9223372036854775808 ≤ c) (h1 : c ≤ 9223372036854775807) : (Lit.int .i64 c).wf = true := by
  have e1 : IntKind.i64.min = -9223372036854775808 := rfl
  have e2 : IntKind.i64.max = 9223372036854775807 := rfl
  simp [Lit.wf, e1, e2]
  omega
end Go.Proofs.YtlomecfhobehnaaGreatDoor
end
section
/- A map of the call's own from names to ints, as a set: 1 at what is in it. No program in sight. -/
namespace Go.Proofs.YtlomecfhobehnaaGreatDoor
open Go Go.RowKit Go.Maps Go.WideElems Go.ChangeMaps Go.WideMaps
set_option linter.unusedVariables false
set_option linter.unusedSimpArgs false
/-- block b is a map of the call's own, of at most n entries: 1 stands at the names of S -/
def MapN (P : Program) (k e : TypeId) (w : World) (b n : Nat) (S : List (List UInt8)) : Prop :=
  ∃ D : DataW Unit, w.ownsMap P k (plainElem P e) b n D ∧ IsMap D ∧ ∀ s : List UInt8, D.atKey (.string s) (.lit (.int .i64 0)) = .lit (.int .i64 (if S.contains s then 1 else 0))
section
variable {P : Program} {t k e : TypeId} {w : World} {b n : Nat} {S : List (List UInt8)}
theorem str_key (s : List UInt8) : WideAt.IsKeyLit (.string s) := by unfold WideAt.IsKeyLit; trivial
theorem MapN.made (w : World) : MapN P k e (w.alloc (.map #[] 0)) w.heap.size 0 [] :=
  ⟨.map [], World.ownsMap_made _ _ _ _, isMap_empty, fun c => rfl⟩
theorem MapN.kept {w' : World} {row : Option Nat} (h : MapN P k e w b n S) (hg : w.grownBy w' row) (hne : some b ≠ row) : MapN P k e w' b n S := by
  obtain ⟨D, h1, h2⟩ := h
  exact ⟨D, h1.kept hg hne, h2⟩
theorem MapN.keep {w' : World} (h : MapN P k e w b n S) (hh : w'.heap[b]? = w.heap[b]?) : MapN P k e w' b n S := by
  obtain ⟨D, ⟨es, clock, hb, F, h1, h2⟩, h3⟩ := h
  exact ⟨D, ⟨es, clock, hh.trans hb, F, h1, h2⟩, h3⟩
theorem MapN.mono (h : MapN P k e w b n S) {m : Nat} (hm : n ≤ m) : MapN P k e w b m S := by
  obtain ⟨D, h1, h2⟩ := h
  exact ⟨D, h1.mono hm, h2⟩
theorem MapN.lt (h : MapN P k e w b n S) : b < w.heap.size := by obtain ⟨D, h1, _⟩ := h; exact h1.lt
theorem bstr_keyOf (hk : P.underlying k = some .string) (s : List UInt8) (hs : s.length ≤ 100000) : keyOf P k (.string (bstr s)) = some (.string s) :=
  WideMaps.keyOf_string_mk hk (by rw [bstr_size]; show s.length ≤ 9223372036854775807; omega)
theorem MapN.look (h : MapN P k e w b n S) (hk : P.underlying k = some .string) (ht : P.underlying t = some (.map k e)) (he : P.underlying e = some (.int .i64)) (hz : (zeroValue e).run P w = .ok (.int .i64 0) w) (s : List UInt8) (hs : s.length ≤ 100000) :
    (Instr.lookup t (.map (some b)) (.string (bstr s)) false).run P w = .ok (.int .i64 (if S.contains s then 1 else 0)) w := by
  obtain ⟨D, h1, h2, h3⟩ := h
  obtain ⟨c, hrun, hat, _⟩ := h1.lookup_int (string_keyed hk) ht he hz (bstr_keyOf hk s hs)
  rw [h3 s] at hat
  simp only [DataW.lit.injEq, Lit.int.injEq, true_and] at hat
  rw [hrun, hat]
theorem MapN.store (h : MapN P k e w b n S) (hk : P.underlying k = some .string) (ht : P.underlying t = some (.map k e)) (he : P.underlying e = some (.int .i64)) (hn : n < maxLen) (s : List UInt8) (hs : s.length ≤ 100000) :
    ∃ w', (Instr.mapUpdate t (.map (some b)) (.string (bstr s)) (.int .i64 1)).run P w = .ok () w' ∧ MapN P k e w' b (n + 1) (s :: S) ∧ w.grownBy w' (some b) := by
  obtain ⟨D, h1, h2, h3⟩ := h
  obtain ⟨w', hrun, ho, hg⟩ := h1.update (string_keyed hk) ht hn (bstr_keyOf hk s hs) (plainElem_int he (by decide : (Lit.int .i64 1).wf = true))
  refine ⟨w', hrun, ⟨_, ho, h2.put _ _, fun x => ?_⟩, hg⟩
  by_cases hxc : x = s
  · subst hxc
    rw [atKey_put_same h2 (str_key x)]
    simp
  · have hne : (Lit.string x) ≠ .string s := fun h => by injection h with h4; exact hxc h4
    rw [atKey_put_other hne, h3 x]
    have : (s :: S).contains x = S.contains x := by
      rw [List.contains_cons]
      have : (x == s) = false := by rw [beq_eq_false_iff_ne]; exact hxc
      rw [this, Bool.false_or]
    rw [this]
end
/-- a store, at the operation -/
theorem wpList_storeN {P : Program} (w : World) {ops : Array Oper} {rest : List Oper} {o : Oper} {a : Act} {Q : Exit → Act → World → Prop}
    (hg : o.guard = none) (m x v : Operand) (t : TypeId) (hop : o.op = Op.mapUpdate t m x v) (k e : TypeId) (ht : P.underlying t = some (.map k e)) (hk : P.underlying k = some .string) (he : P.underlying e = some (.int .i64))
    (b n : Nat) (S : List (List UInt8)) (hm : a.eval m = .map (some b)) (h : MapN P k e w b n S) (hn : n < maxLen) (s : List UInt8) (hs : s.length ≤ 100000) (hx : a.eval x = .string (bstr s)) (hv : a.eval v = .int .i64 1)
    (hK : ∀ w', MapN P k e w' b (n + 1) (s :: S) → w.grownBy w' (some b) → wpList P ops Q rest (a.put o.dst undef) w') :
    wpList P ops Q (o :: rest) a w := by
  refine wpList_plain hg fun K' hK' => ?_
  obtain ⟨w', hrun, r1, r2⟩ := h.store hk ht he hn s hs
  unfold Oper.wp
  simp [execOp, hop, hm, hx, hv, hrun, Result.andThen]
  exact hK' _ _ (hK w' r1 r2)
end Go.Proofs.YtlomecfhobehnaaGreatDoor
end
