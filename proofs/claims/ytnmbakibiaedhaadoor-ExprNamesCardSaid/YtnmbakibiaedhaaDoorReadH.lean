/- Contract of expr.Text. -/
import Derived.Test.YtnmbakibiaedhaaDoorReadG
import Derived.Test.YtnmbakibiaedhaaDoorPlainExpr3
namespace Go.Proofs.YtnmbakibiaedhaaDoor
open Go.RowKit
set_option linter.unusedVariables false
set_option linter.unusedSimpArgs false
open Rd
open Ex (X levels)
theorem Print_dec (n : Nat) (w : World) (hn : n < 18446744073709551616) : Calls Tryd.prog 41 #[.int .u64 (n : Nat), .int .i64 10, .int .i64 0] w fun e w' => e = .returned (.tuple #[.string (bstr (Num.dec n)), .nilIface]) ∧ Below w.heap.size w w' := by
  refine (Print_any n 10 0 w hn (by decide) (by decide) (by decide)).mono ?_
  rintro e w' ⟨⟨J, hJ, rfl⟩, hb⟩
  have : J = Num.wdt n := Digits.Wide.unique hJ (Num.wdt_wide n hn)
  subst this
  exact ⟨rfl, hb⟩
set_option maxRecDepth 100000 in
theorem Text_num (a n : Nat) (hn : n < 9223372036854775808) : TextC (.num a n) := by
  intro w rb b hl hrb hx hp
  have c0 := hx.2.cell0 0 (by simp)
  have c2 := hx.2.cell0 2 (by simp)
  simp only [List.getElem_cons_zero, List.getElem_cons_succ] at c0 c2
  have HP := Lib.hid (Print_dec n w (by omega))
  have hw : IntKind.u64.wrap (n : Int) = (n : Int) := by rw [IntKind.wrap_u64]; omega
  clear hx hl hp
  show Calls _ _ _ _ fun e w' => e = .returned (.string (bstr (Num.dec n))) ∧ Below w.heap.size w w'
  go_enter Tryd.func13, Tryd.ntmps13
  go_wp2_with fail
  refine HP.out.mono ?_
  rintro e w1 ⟨rfl, hb⟩
  go_wp2_with fail
  go_ret
  exact ⟨rfl, hb⟩
set_option maxRecDepth 100000 in
theorem Text_name (a : Nat) (s : List UInt8) : TextC (.name a s) := by
  intro w rb b hl hrb hx hp
  have c0 := hx.2.cell0 0 (by simp)
  have c3 := hx.2.cell0 3 (by simp)
  simp only [List.getElem_cons_zero, List.getElem_cons_succ] at c0 c3
  clear hx hl hp
  show Calls _ _ _ _ fun e w' => e = .returned (.string (bstr s)) ∧ Below w.heap.size w w'
  go_enter Tryd.func13, Tryd.ntmps13
  go_wp2_with fail
  go_ret
  exact ⟨rfl, Below.refl _ _⟩
theorem pr_bin (a : Nat) (op : List UInt8) (l r : X) : Ex.pr Num.dec (.bin a op l r) = partOf l (Ex.opLevel op) ++ 32 :: (op ++ 32 :: partOf r (Ex.opLevel op + 1)) := rfl
theorem part_ge (x : X) (k : Nat) : (Ex.pr Num.dec x).length ≤ (partOf x k).length := by
  unfold partOf
  split
  · simp only [List.length_cons, List.length_append]; omega
  · exact Nat.le_refl _
/-- what the region keeps: the node's cells -/
abbrev TS (w : World) (b bl br : Nat) (op : List UInt8) (w1 : World) : Prop := w1.cell? ⟨b, 5, none⟩ = some (.pointer (some ⟨bl, 0, none⟩)) ∧ w1.cell? ⟨b, 4, none⟩ = some (.string (bstr op)) ∧ w1.cell? ⟨b, 6, none⟩ = some (.pointer (some ⟨br, 0, none⟩)) ∧ Below w.heap.size w w1
theorem TS.keep {w w1 w2 : World} {b bl br : Nat} {op : List UInt8} (h : TS w b bl br op w1) (hb : b < w.heap.size) (h2 : Below w1.heap.size w1 w2) : TS w b bl br op w2 := by
  have hlt : b < w1.heap.size := Nat.lt_of_lt_of_le hb h.2.2.2.size
  exact ⟨(h2.cell (p := ⟨b, 5, none⟩) hlt).trans h.1, (h2.cell (p := ⟨b, 4, none⟩) hlt).trans h.2.1, (h2.cell (p := ⟨b, 6, none⟩) hlt).trans h.2.2.1, h.2.2.2.trans (h2.mono h.2.2.2.size)⟩
theorem TS.drew {w w1 : World} {b bl br : Nat} {op : List UInt8} (h : TS w b bl br op w1) : TS w b bl br op w1.drew := ⟨h.1, h.2.1, h.2.2.1, h.2.2.2.drew⟩
set_option maxRecDepth 100000 in
set_option maxHeartbeats 4000000 in
theorem Text_bin (a : Nat) (op : List UInt8) (l r : X) (hop : Ex.opLevel op < 3) (hL : TextC l) (hR : TextC r) : TextC (.bin a op l r) := by
  intro w rb b hl hrb hx hp
  have HH := Lib.hid (hold_x hl hx)
  have hh : Ex.hold (.bin a op l r) = Ex.opLevel op := rfl
  rw [hh] at HH
  obtain ⟨bl, br, h1, h2, h3, h4⟩ := hx
  have c0 := h2.cell0 0 (by simp)
  have c4 := h2.cell0 4 (by simp)
  have c5 := h2.cell0 5 (by simp)
  have c6 := h2.cell0 6 (by simp)
  simp only [List.getElem_cons_zero, List.getElem_cons_succ] at c0 c4 c5 c6
  rw [pr_bin] at hp ⊢
  have hpl := part_ge l (Ex.opLevel op)
  have hpr := part_ge r (Ex.opLevel op + 1)
  simp only [List.length_append, List.length_cons] at hp
  obtain ⟨k, hk⟩ : ∃ k, k = Ex.opLevel op := ⟨_, rfl⟩
  rw [← hk] at hpl hpr hp HH hop ⊢
  have hblt := h2.lt
  have hlv : ∀ W, Below w.heap.size w W → LevelsAt W rb := fun W hB => by
    refine ⟨hl.1, fun i hi => ?_⟩
    obtain ⟨gk, ck, e1, e2, e3⟩ := hl.2 i hi
    exact ⟨gk, ck, (hB.cell (p := ⟨_, i, none⟩) (Nat.lt_of_lt_of_le hl.1 hrb)).trans e1, e2, fun j hj => (hB.cell (p := gk.add j) (by rw [Addr.add_block]; exact Nat.lt_of_lt_of_le e2 hrb)).trans (e3 j hj)⟩
  have HPL : Hid (∀ W, TS w b bl br op W → Calls Tryd.prog 43 #[.pointer (some ⟨bl, 0, none⟩), .int .i64 (k : Nat)] W fun e w' => e = .returned (.string (bstr (partOf l k))) ∧ TS w b bl br op w') := Lib.hid fun W hW =>
    (part_any l k W rb bl hL (hlv W hW.2.2.2) (Nat.le_trans hrb hW.2.2.2.size) (IsX.grown (below_grown hW.2.2.2 _) l bl h3) (by omega) (by omega)).mono fun e w' ⟨h, hb⟩ => ⟨h, hW.keep hblt hb⟩
  have HPR : Hid (∀ W, TS w b bl br op W → Calls Tryd.prog 43 #[.pointer (some ⟨br, 0, none⟩), .int .i64 ((k : Int) + 1)] W fun e w' => e = .returned (.string (bstr (partOf r (k + 1)))) ∧ TS w b bl br op w') := Lib.hid fun W hW =>
    (part_any r (k + 1) W rb br hR (hlv W hW.2.2.2) (Nat.le_trans hrb hW.2.2.2.size) (IsX.grown (below_grown hW.2.2.2 _) r br h4) (by omega) (by omega)).mono fun e w' ⟨h, hb⟩ => ⟨h, hW.keep hblt hb⟩
  have hS0 : TS w b bl br op w := ⟨c5, c4, c6, Below.refl _ _⟩
  generalize partOf l k = p at *
  generalize partOf r (k + 1) = q at *
  have z1 : ¬ 9223372036854775807 < p.length + 1 := by omega
  have z2 : ¬ 9223372036854775807 < p.length + 1 + op.length := by omega
  have z3 : ¬ 9223372036854775807 < p.length + 1 + op.length + 1 := by omega
  have z4 : ¬ 9223372036854775807 < p.length + 1 + op.length + 1 + q.length := by omega
  have z5 : ¬ 9223372036854775807 < p.length + (op.length + 1) := by omega
  have hkw : IntKind.i64.wrap ((k : Int) + 1) = (k : Int) + 1 := by rw [IntKind.wrap_i64]; omega
  clear hlv hL hR hl h2 h3 h4 hpl hpr hh hk hp
  go_enter Tryd.func13, Tryd.ntmps13
  go_wp2_with fail
  refine HH.out.mono ?_
  rintro e w ⟨rfl, rfl⟩
  go_wp2_with fail
  go_region_held3 (fun w1 => w1.cell? ⟨b, 5, none⟩ = some (.pointer (some ⟨bl, 0, none⟩)) ∧ w1.cell? ⟨b, 4, none⟩ = some (.string (bstr op)) ∧ w1.cell? ⟨b, 6, none⟩ = some (.pointer (some ⟨br, 0, none⟩)) ∧ Below w.heap.size w w1)
    (first
      | exact hS0
      | exact TS.drew (by assumption)
      | assumption)
    (first
      | (go_at_call 43; (with_reducible refine (HPL.out _ ?_).mono ?_); (next => (first | assumption | exact hS0)); (rintro e w9 ⟨rfl, hS9⟩))
      | ((try rw [hkw]); go_at_call 43; (with_reducible refine (HPR.out _ ?_).mono ?_); (next => (first | assumption | exact hS0)); (rintro e w9 ⟨rfl, hS9⟩)))
  all_goals
    go_wp2_with fail
    go_ret
    have hst : bstr p ++ { data := #[32] } ++ bstr op ++ { data := #[32] } ++ bstr q = bstr (p ++ 32 :: (op ++ 32 :: q)) := by
      rw [show ({ data := #[32] } : ByteArray) = bstr [32] from rfl]
      simp only [bstr_append, List.append_assoc]
      rfl
    exact ⟨by rw [← hst]; rfl, hS9.2.2.2⟩
theorem Text_x : ∀ x : X, Ex.Fine Num.numOf Num.dec x → TextC x
  | .num a n, h => Text_num a n (Num.numOf_lt h.2.2)
  | .name a s, _ => Text_name a s
  | .bin a op l r, h => Text_bin a op l r h.1 (Text_x l h.2.1) (Text_x r h.2.2)
end Go.Proofs.YtnmbakibiaedhaaDoor
