/- The walk through the pieces (a range over a function), inside a fence. -/
import Derived.Test.YtenhblpegobbjaaPieceE
import Derived.RangeFuncBox
import Derived.RangeFuncNested
import Derived.RangeFuncBound
import Derived.RangeFuncCalls
import Derived.RangeFuncLeaves
import Derived.Shelf.Abstract
import Derived.OwnWalkIn
import Derived.TacticsInMore
import Derived.LoopNIn
import Derived.LoopIn
import Derived.Maps.AppendAt
namespace Go.Proofs.Ytenhblpegobbjaa
open Go.RowKit Go.Shelf
open Piece
set_option linter.unusedVariables false
set_option linter.unusedSimpArgs false
attribute [local go_sem] Oper.semAt_some
theorem room_of_none {F : Fence} (hd : F.depth = none) (k : Nat) : F.room k := fun d h => by rw [hd] at h; cases h
theorem RoundIn.anyDepth {F : Fence} (hd : F.depth = none) {m m' : Nat} {P : Program} {l : Nat} {f : FuncId} {tmps : Array Value} {assign body : Code} {w : World} {R : Ending → World → Prop}
    (h : RoundIn F m P l f tmps assign body w R) : RoundIn F m' P l f tmps assign body w R := ⟨h.1, fun c cs _ => h.2 c cs (room_of_none hd _)⟩
theorem YieldAt.anyDepth {F : Fence} (hd : F.depth = none) {m : Nat} (m' : Nat) {P : Program} {l : Nat} {args : Array Value} {W : World} {R : Ending → World → Prop} (h : YieldAt F m P l args W R) : YieldAt F m' P l args W R := by
  obtain ⟨fn, tmps, assign, body, hy, hR⟩ := h
  exact ⟨fn, tmps, assign, body, hy, RoundIn.anyDepth hd hR⟩
/-- a piece that is not empty -/
abbrev Pc := { x : List UInt8 // x ≠ [] ∧ x.length ≤ 100000 }
set_option maxRecDepth 100000 in
set_option maxHeartbeats 2000000 in
theorem walk_in (F : Fence) (hd : F.depth = none) (hf : F.fn 54) (hro : F.round = none) (l n₀ N : Nat) (J Jx : List Pc → World → Prop)
    (hY : ∀ m pre (x : Pc) W, J pre W → pre.length < N → YieldAt F m Try.prog l #[.string (bstr x.1)] W fun e W' =>
      (e = .returned (.bool true) ∧ J (pre ++ [x]) W' ∧ Below n₀ W W') ∨ (e = .returned (.bool false) ∧ Jx (pre ++ [x]) W')) (T : Tr) :
    ∀ (L : List Pc) (hLT : L.map Subtype.val = T.pieces) (n : Nat) (p : Option Addr) (pre : List Pc) (W : World), IsTr n₀ W p T → J pre W → pre.length + L.length ≤ N →
      CallsIn F n Try.prog 54 #[.pointer p, .func (.yield l) #[] #[]] W fun e W' =>
        (e = .returned (.bool true) ∧ J (pre ++ L) W' ∧ Below n₀ W W') ∨ (e = .returned (.bool false) ∧ ∃ q, q <+: L ∧ Jx (pre ++ q) W') := by
  induction T with
  | nil =>
    intro L hLT n p pre W ht hJ _
    obtain rfl : p = none := ht
    obtain rfl : L = [] := List.map_eq_nil_iff.1 hLT
    refine callsIn_of_wp Try.func54 rfl hf ?_ hro
    simp only [Try.ntmps54, List.size_toArray, List.length_cons, List.length_nil, Nat.reduceAdd, Nat.reduceSub, Array.replicate_succ, Array.replicate_zero, List.push_toArray, List.append_toArray, List.nil_append, List.cons_append]
    gi_wp2
    all_goals (try (have hbad : ∃ b : Bool, (some undef : Option Value) = some (.bool b) := ⟨_, by assumption⟩
                    obtain ⟨b, hb⟩ := hbad
                    exfalso
                    first | (cases hb; done) | (simp [undef] at hb; done)))
    refine ⟨fun _ h => (by cases h), ?_⟩
    gi_wp2
    go_ret
    exact .inl ⟨rfl, by simpa using hJ, Below.refl _ _⟩
  | node tl v tr ihl ihr =>
    intro L hLT n p pre W ht hJ hN
    obtain ⟨b, pl, pr, rfl, hb, c0, c1, c2, c3, c4, hl, hr⟩ := ht
    have hdd : ∀ k : Nat, (F.depth.isSome = true → 1 ≤ k) := fun k h => by rw [hd] at h; cases h
    obtain ⟨L1, L', rfl, hL1, hL'⟩ := List.map_eq_append_iff.1 hLT
    obtain ⟨x, L2, rfl, hx, hL2⟩ := List.map_eq_cons_iff.1 hL'
    rw [← hx] at c0
    simp only [List.length_append, List.length_cons] at hN
    have hy2 : ∀ W1, J (pre ++ L1) W1 → Below n₀ W W1 → YieldAt F (n - 1) Try.prog l #[.string (bstr x.1)] W1 fun e W2 =>
        (e = .returned (.bool true) ∧ J (pre ++ L1 ++ [x]) W2 ∧ Below n₀ W W2 ∧ W2.cell? ⟨b, 4, none⟩ = some (.pointer pr) ∧ IsTr n₀ W2 pr tr) ∨ (e = .returned (.bool false) ∧ Jx (pre ++ L1 ++ [x]) W2) := fun W1 hJ1 hb1 =>
      YieldAt.mono (hY (n - 1) _ x W1 hJ1 (by simp; omega)) fun e W2 h => h.elim
        (fun ⟨he, hj, hb2⟩ => .inl ⟨he, hj, hb1.trans hb2, ((hb1.trans hb2).cell (p := ⟨b, 4, none⟩) hb).trans c4, hr.below (hb1.trans hb2)⟩) .inr
    have ih1 := (ihl L1 hL1 (n - 1) pl pre W hl hJ (by omega)).mono (R' := fun e W1 =>
        (e = .returned (.bool true) ∧ W1.cell? ⟨b, 0, none⟩ = some (.string (bstr x.1)) ∧ YieldAt F (n - 1) Try.prog l #[.string (bstr x.1)] W1 fun e W2 =>
          (e = .returned (.bool true) ∧ J (pre ++ L1 ++ [x]) W2 ∧ Below n₀ W W2 ∧ W2.cell? ⟨b, 4, none⟩ = some (.pointer pr) ∧ IsTr n₀ W2 pr tr) ∨ (e = .returned (.bool false) ∧ Jx (pre ++ L1 ++ [x]) W2)) ∨
        (e = .returned (.bool false) ∧ ∃ q, q <+: L1 ∧ Jx (pre ++ q) W1))
      (fun e W1 h => h.elim (fun ⟨he, hj, hb1⟩ => .inl ⟨he, (hb1.cell (p := ⟨b, 0, none⟩) hb).trans c0, hy2 W1 hj hb1⟩) .inr)
    clear hy2 ihl c1 c2 hx hL1 hL' hLT
    refine callsIn_of_wp Try.func54 rfl hf ?_ hro
    simp only [Try.ntmps54, List.size_toArray, List.length_cons, List.length_nil, Nat.reduceAdd, Nat.reduceSub, Array.replicate_succ, Array.replicate_zero, List.push_toArray, List.append_toArray, List.nil_append, List.cons_append]
    gi_wp2_with (first
      | ((try refine ⟨hdd _, ?_⟩); gi_at_call 54; refine ih1.mono ?_; clear ih1; rintro e W1 (⟨rfl, c1', fn, tmps, assign, body, hy, hR⟩ | ⟨rfl, q, hq, hx1⟩))
      | ((try refine ⟨hdd _, ?_⟩); refine hR.mono ?_; clear hR; rintro e W2 (⟨rfl, hJ2, hb2, c2', hr2⟩ | ⟨rfl, hx2⟩))
      | ((try refine ⟨hdd _, ?_⟩); gi_at_call 54; refine (ihr L2 hL2 (n - 1) pr _ _ hr2 hJ2 (by simp; omega)).mono ?_; rintro e W3 (⟨rfl, hJ3, hb3⟩ | ⟨rfl, q, hq, hx3⟩)))
    · go_ret
      exact .inl ⟨rfl, by simpa [List.append_assoc] using hJ3, hb2.trans hb3⟩
    · go_ret
      obtain ⟨r, hr'⟩ := hq
      exact .inr ⟨rfl, L1 ++ x :: q, ⟨r, by simp [← hr']⟩, by simpa [List.append_assoc] using hx3⟩
    · go_ret
      exact .inr ⟨rfl, L1 ++ [x], ⟨L2, by simp⟩, by simpa [List.append_assoc] using hx2⟩
    · refine ⟨fun _ h => (by cases h), ?_⟩
      gi_wp2
      go_ret
      exact .inr ⟨rfl, q, hq.trans (by simp), hx1⟩
end Go.Proofs.Ytenhblpegobbjaa
