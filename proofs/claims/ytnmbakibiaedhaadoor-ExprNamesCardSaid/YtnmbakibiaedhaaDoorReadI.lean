/- Contract of expr.Eval. -/
import Derived.Test.YtnmbakibiaedhaaDoorReadH
namespace Go.Proofs.YtnmbakibiaedhaaDoor
open Go.RowKit
set_option linter.unusedVariables false
set_option linter.unusedSimpArgs false
open Rd
open Ex (X levels)
/-- names that are numbers: a map that came in -/
structure NamesAt (w : World) (mv : Value) (N : Ex.Names) (n : Nat) : Prop where
  look : ∀ W, Below w.heap.size w W → ∀ s : List UInt8, s.length ≤ 1000 → (Instr.lookup 22 mv (.string (bstr s)) true).run Tryd.prog W = .ok (.tuple #[.int .i64 ((N s).getD 0), .bool (N s).isSome]) W
  rng : ∀ s v, N s = some v → Ex.InR v
  len : ∀ W, Below w.heap.size w W → (Builtin.len_ #[22] 3 #[mv]).run Tryd.prog W = .ok (.int .i64 (n : Nat)) W
/-- how Eval ends -/
def EvPost (w : World) (r : Option Int) (e : Ending) (w' : World) : Prop := Below w.heap.size w w' ∧ match r with
  | some v => e = .returned (.tuple #[.int .i64 v, .nilIface])
  | none => ∃ g p, e = .returned (.tuple #[.int .i64 0, .iface 88 (.pointer (some ⟨g, 0, none⟩))]) ∧ RowAt w' g 0 90 [.int .i64 5, .int .i64 (p : Nat)]
def EvalC (w0 : World) (mv : Value) (N : Ex.Names) (x : X) : Prop := ∀ (w : World) (rb b : Nat), Below w0.heap.size w0 w → IsX w rb b x →
  Calls Tryd.prog 15 #[.pointer (some ⟨b, 0, none⟩), mv] w (EvPost w (Ex.ev N x))
set_option maxRecDepth 100000 in
theorem Eval_num (w0 : World) (mv : Value) (N : Ex.Names) (a n : Nat) : EvalC w0 mv N (.num a n) := by
  intro w rb b hb hx
  have c0 := hx.2.cell0 0 (by simp)
  have c2 := hx.2.cell0 2 (by simp)
  simp only [List.getElem_cons_zero, List.getElem_cons_succ] at c0 c2
  clear hx
  go_enter Tryd.func15, Tryd.ntmps15
  go_wp2_with fail
  go_ret2
  exact ⟨Below.refl _ _, rfl⟩
set_option maxRecDepth 100000 in
set_option maxHeartbeats 1000000 in
theorem Eval_name (w0 : World) (mv : Value) (N : Ex.Names) (n a : Nat) (s : List UInt8) (hs : s.length ≤ 12) (hN : NamesAt w0 mv N n) : EvalC w0 mv N (.name a s) := by
  intro w rb b hb hx
  have c0 := hx.2.cell0 0 (by simp)
  have c1 := hx.2.cell0 1 (by simp)
  have c3 := hx.2.cell0 3 (by simp)
  simp only [List.getElem_cons_zero, List.getElem_cons_succ] at c0 c1 c3
  have hlk := hN.look w hb s (by omega)
  have hev : Ex.ev N (.name a s) = N s := rfl
  rw [hev]
  clear hx hN hb hev
  cases h : N s with
  | some v =>
    rw [h] at hlk
    simp only [Option.getD_some, Option.isSome_some] at hlk
    clear h
    go_enter Tryd.func15, Tryd.ntmps15
    go_wp2_with fail
    go_ret2
    exact ⟨Below.refl _ _, rfl⟩
  | none =>
    rw [h] at hlk
    simp only [Option.getD_none, Option.isSome_none] at hlk
    clear h
    go_enter Tryd.func15, Tryd.ntmps15
    go_wp2_with fail
    go_region
    all_goals
      go_wp2_with fail
      go_ret2
      exact ⟨((Below.refl _ w).alloc (Nat.le_refl _) _).drew, _, a, rfl, (RowAt.new w 90 #[.int .i64 5, .int .i64 (a : Nat)]).drew⟩
set_option maxRecDepth 100000 in
theorem truth_any (c : Bool) (w : World) : Calls Tryd.prog 45 #[.bool c] w fun e w' => e = .returned (.int .i64 (Ex.truth c)) ∧ w' = w := by
  cases c <;>
  · go_enter Tryd.func45, Tryd.ntmps45
    go_wp2_with fail
    go_ret
    exact ⟨rfl, rfl⟩
theorem wrap_eq (z : Int) : Ex.wrapI z = wrap64 z := by
  unfold Ex.wrapI wrap64
  rw [IntKind.wrap_i64]
theorem opv_add (u v : Int) : Ex.opv [43] u v = wrap64 (u + v) := by
  show Ex.wrapI (u + v) = _
  exact wrap_eq _
theorem opv_sub (u v : Int) : Ex.opv [45] u v = wrap64 (u - v) := by
  show Ex.wrapI (u - v) = _
  exact wrap_eq _
theorem opv_mul (u v : Int) : Ex.opv [42] u v = wrap64 (u * v) := by
  show Ex.wrapI (u * v) = _
  exact wrap_eq _
/-- a node's cells -/
structure NodeAt (w : World) (b bl br : Nat) (op : List UInt8) : Prop where
  c0 : w.cell? ⟨b, 0, none⟩ = some (.int .i64 3)
  c4 : w.cell? ⟨b, 4, none⟩ = some (.string (bstr op))
  c5 : w.cell? ⟨b, 5, none⟩ = some (.pointer (some ⟨bl, 0, none⟩))
  c6 : w.cell? ⟨b, 6, none⟩ = some (.pointer (some ⟨br, 0, none⟩))
  lt : b < w.heap.size
theorem NodeAt.below {w w' : World} {b bl br : Nat} {op : List UInt8} (h : NodeAt w b bl br op) (hb : Below w.heap.size w w') : NodeAt w' b bl br op :=
  ⟨(hb.cell (p := ⟨b, 0, none⟩) h.lt).trans h.c0, (hb.cell (p := ⟨b, 4, none⟩) h.lt).trans h.c4, (hb.cell (p := ⟨b, 5, none⟩) h.lt).trans h.c5, (hb.cell (p := ⟨b, 6, none⟩) h.lt).trans h.c6, Nat.lt_of_lt_of_le h.lt hb.size⟩
theorem nodeAt {w : World} {rb b a : Nat} {op : List UInt8} {l r : X} (h : IsX w rb b (.bin a op l r)) : ∃ bl br, NodeAt w b bl br op ∧ IsX w rb bl l ∧ IsX w rb br r := by
  obtain ⟨bl, br, h1, h2, h3, h4⟩ := h
  exact ⟨bl, br, ⟨h2.cell0 0 (by simp), h2.cell0 4 (by simp), h2.cell0 5 (by simp), h2.cell0 6 (by simp), h2.lt⟩, h3, h4⟩
set_option maxRecDepth 100000 in
set_option maxHeartbeats 1000000 in
theorem Eval_left (w0 : World) (mv : Value) (N : Ex.Names) (a : Nat) (op : List UInt8) (l r : X) (hl : EvalC w0 mv N l) (hn : Ex.ev N l = none) : EvalC w0 mv N (.bin a op l r) := by
  intro w rb b hb hx
  obtain ⟨bl, br, hnode, hxl, hxr⟩ := nodeAt hx
  have hL := hl w rb bl hb hxl
  rw [hn] at hL
  unfold EvPost at hL
  have HL := Lib.hid hL
  have c0 := hnode.c0; have c5 := hnode.c5
  have hev : Ex.ev N (.bin a op l r) = none := by unfold Ex.ev; rw [hn]; rfl
  rw [hev]
  clear hx hL hxl hxr hnode hev hn hl
  go_enter Tryd.func15, Tryd.ntmps15
  go_wp2_with fail
  refine HL.out.mono ?_
  rintro e w1 ⟨hb1, g, p, rfl, hrow⟩
  go_wp2_with fail
  go_ret2
  exact ⟨hb1, g, p, rfl, hrow⟩
set_option maxRecDepth 100000 in
set_option maxHeartbeats 1000000 in
theorem Eval_right (w0 : World) (mv : Value) (N : Ex.Names) (a : Nat) (op : List UInt8) (l r : X) (u : Int) (hl : EvalC w0 mv N l) (hr : EvalC w0 mv N r) (hu : Ex.ev N l = some u) (hn : Ex.ev N r = none) : EvalC w0 mv N (.bin a op l r) := by
  intro w rb b hb hx
  obtain ⟨bl, br, hnode, hxl, hxr⟩ := nodeAt hx
  have hL := hl w rb bl hb hxl
  rw [hu] at hL
  unfold EvPost at hL
  have HL := Lib.hid hL
  have hR : ∀ W, Below w.heap.size w W → Calls Tryd.prog 15 #[.pointer (some ⟨br, 0, none⟩), mv] W (EvPost W none) := fun W hW => by
    have := hr W rb br (hb.trans (hW.mono hb.size)) (IsX.grown (below_grown hW _) r br hxr)
    rwa [hn] at this
  unfold EvPost at hR
  have HR := Lib.hid hR
  have HN := Lib.hid hnode
  have c0 := hnode.c0; have c5 := hnode.c5
  have hev : Ex.ev N (.bin a op l r) = none := by unfold Ex.ev; rw [hu, hn]; rfl
  rw [hev]
  clear hx hL hxl hxr hnode hev hn hl hr hu hR
  go_enter Tryd.func15, Tryd.ntmps15
  go_wp2_with fail
  refine HL.out.mono ?_
  rintro e w1 ⟨hb1, rfl⟩
  have c6 := (HN.out.below hb1).c6
  have HB1 := Lib.hid hb1
  clear hb1
  go_wp2_with fail
  refine (HR.out w1 HB1.out).mono ?_
  rintro e w2 ⟨hb2, g, p, rfl, hrow⟩
  go_wp2_with fail
  go_ret2
  exact ⟨HB1.out.trans (hb2.mono HB1.out.size), g, p, rfl, hrow⟩
set_option maxRecDepth 100000 in
set_option maxHeartbeats 1000000 in
theorem Eval_both (w0 : World) (mv : Value) (N : Ex.Names) (a : Nat) (op : List UInt8) (l r : X) (u v : Int) (hop : Ex.opLevel op < 3) (hl : EvalC w0 mv N l) (hr : EvalC w0 mv N r) (hu : Ex.ev N l = some u) (hv : Ex.ev N r = some v) : EvalC w0 mv N (.bin a op l r) := by
  intro w rb b hb hx
  obtain ⟨bl, br, hnode, hxl, hxr⟩ := nodeAt hx
  have hL := hl w rb bl hb hxl
  rw [hu] at hL
  unfold EvPost at hL
  have HL := Lib.hid hL
  have hR : ∀ W, Below w.heap.size w W → Calls Tryd.prog 15 #[.pointer (some ⟨br, 0, none⟩), mv] W (EvPost W (some v)) := fun W hW => by
    have := hr W rb br (hb.trans (hW.mono hb.size)) (IsX.grown (below_grown hW _) r br hxr)
    rwa [hv] at this
  unfold EvPost at hR
  have HR := Lib.hid hR
  have HN := Lib.hid hnode
  have c0 := hnode.c0; have c5 := hnode.c5
  have hev : Ex.ev N (.bin a op l r) = some (Ex.opv op u v) := by unfold Ex.ev; rw [hu, hv]; rfl
  rw [hev]
  have HTR := Lib.hid (fun c w => truth_any c w)
  have hm : op ∈ levels 0 ∨ op ∈ levels 1 ∨ op ∈ levels 2 := by
    have := Ex.level_of op hop
    rcases (by omega : Ex.opLevel op = 0 ∨ Ex.opLevel op = 1 ∨ Ex.opLevel op = 2) with h | h | h <;> rw [h] at this
    · exact .inl this
    · exact .inr (.inl this)
    · exact .inr (.inr this)
  clear hx hL hxl hxr hnode hev hl hr hu hR hv hop
  have hcase : op = [61, 61] ∨ op = [33, 61] ∨ op = [60] ∨ op = [62] ∨ op = [43] ∨ op = [45] ∨ op = [124] ∨ op = [42] ∨ op = [38] := by
    simp only [levels, List.mem_cons, List.not_mem_nil, or_false] at hm
    rcases hm with (h | h | h | h) | (h | h | h) | (h | h) <;> simp [h]
  clear hm
  rcases hcase with rfl | rfl | rfl | rfl | rfl | rfl | rfl | rfl | rfl
  all_goals
    go_enter Tryd.func15, Tryd.ntmps15
    go_wp2_with fail
    refine HL.out.mono ?_
    rintro e w1 ⟨hb1, rfl⟩
    have c6 := (HN.out.below hb1).c6
    have HB1 := Lib.hid hb1
    clear hb1
    go_wp2_with fail
    refine (HR.out w1 HB1.out).mono ?_
    rintro e w2 ⟨hb2, rfl⟩
    have c4 := ((HN.out.below HB1.out).below hb2).c4
    have HB2 := Lib.hid (HB1.out.trans (hb2.mono HB1.out.size))
    clear hb2
    go_wp2_with fail
    try (refine (HTR.out _ _).mono ?_; rintro e w3 ⟨rfl, rfl⟩; go_wp2_with fail)
    go_ret2
    exact ⟨HB2.out, by first | rfl | (rw [opv_add]; rfl) | (rw [opv_sub]; rfl) | (rw [opv_mul]; rfl)⟩
theorem Eval_x (w0 : World) (mv : Value) (N : Ex.Names) (n : Nat) (hN : NamesAt w0 mv N n) : ∀ x : X, Ex.Fine Num.numOf Num.dec x → EvalC w0 mv N x
  | .num a k, _ => Eval_num w0 mv N a k
  | .name a s, h => Eval_name w0 mv N n a s h.2.1 hN
  | .bin a op l r, h => by
    have hl := Eval_x w0 mv N n hN l h.2.1
    have hr := Eval_x w0 mv N n hN r h.2.2
    cases e1 : Ex.ev N l with
    | none => exact Eval_left w0 mv N a op l r hl e1
    | some u =>
      cases e2 : Ex.ev N r with
      | none => exact Eval_right w0 mv N a op l r u hl hr e1 e2
      | some v => exact Eval_both w0 mv N a op l r u v h.1 hl hr e1 e2
end Go.Proofs.YtnmbakibiaedhaaDoor
