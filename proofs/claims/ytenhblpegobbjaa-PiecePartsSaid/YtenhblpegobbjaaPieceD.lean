/- Contracts of first, both, cut. -/
import Derived.Test.YtenhblpegobbjaaPieceC
namespace Go.Proofs.Ytenhblpegobbjaa
open Go.RowKit
open Piece
set_option linter.unusedVariables false
set_option linter.unusedSimpArgs false
def FirstOut (w : World) (T : Tr) (e : Ending) (w' : World) : Prop := ∃ q, e = .returned (.tuple #[.string (bstr (Tr.first T).1), .pointer q]) ∧ IsTr w'.heap.size w' q (Tr.first T).2 ∧ Below w.heap.size w w'
set_option maxRecDepth 100000 in
set_option maxHeartbeats 2000000 in
theorem first_any (T : Tr) : ∀ (p : Option Addr) (w : World) (hT : T ≠ .nil) (h : IsTr w.heap.size w p T) (hw : Tr.wt T ≤ 1000000),
    Calls Try.prog 89 #[.pointer p] w (FirstOut w T) := by
  induction T with
  | nil => intro p w hT; exact absurd rfl hT
  | node l s r ihl ihr =>
    intro p w hT h hw
    obtain ⟨nb, pa, pb, rfl, hnb, c0, c1, c2, c3, c4, ha, hb⟩ := h
    cases l with
    | nil =>
      obtain rfl : pa = none := ha
      have hout : ∀ w', Below w.heap.size w w' → FirstOut w (.node .nil s r) (.returned (.tuple #[.string (bstr s), .pointer pb])) w' := fun w' hb1 => ⟨pb, rfl, hb.keep hb1, hb1⟩
      have HO := Lib.hid hout
      clear hout hb c1 c2 ihl ihr hw hT
      go_enter Try.func89, Try.ntmps89
      go_wp2_with fail
      go_quiet (fail)
      go_wp2_with fail
      exact bodyPost_ret (v := .tuple #[.string (bstr s), .pointer pb]) (by simp [results, Try.results89, go_sem]) rfl (HO.out _ (bdrewN (Below.refl _ _) _))
    | node la ls lr =>
      have i1 := ihl pa w (by simp) ha (by rw [Tr.wt_node] at hw; omega)
      have e1 : (Tr.first (.node (.node la ls lr) s r)).1 = (Tr.first (.node la ls lr)).1 := by rw [Tr.first]
      have e2 : (Tr.first (.node (.node la ls lr) s r)).2 = Tr.level (Tr.first (.node la ls lr)).2 s r := by rw [Tr.first]
      have hwf := Tr.wt_first (.node la ls lr) (by simp)
      rw [Tr.wt_node] at hw
      unfold FirstOut at i1 ⊢
      rw [e1, e2]
      have hj : ∀ (w1 : World) (q : Option Addr), w1.cell? ⟨nb, 0, none⟩ = some (.string (bstr s)) ∧ w1.cell? ⟨nb, 3, none⟩ = some (.pointer pa) ∧ w1.cell? ⟨nb, 4, none⟩ = some (.pointer pb) ∧ Below w.heap.size w w1 → IsTr w1.heap.size w1 q (Tr.first (.node la ls lr)).2 → Calls Try.prog 90 #[.pointer q, .string (bstr s), .pointer pb] w1 (TrOut w1 (Tr.level (Tr.first (.node la ls lr)).2 s r)) := fun w1 q hb1 hq => level_any q pb _ r s w1 hq (hb.keep hb1.2.2.2) (by omega)
      obtain ⟨lb, _, _, hpa, _⟩ := ha
      generalize Tr.level (Tr.first (.node la ls lr)).2 s r = T2 at *
      generalize (Tr.first (.node la ls lr)).2 = T1 at *
      generalize (Tr.first (.node la ls lr)).1 = x at *
      have I := Lib.hid i1; have J := Lib.hid hj
      clear i1 hj hb c1 c2 ihl ihr hw hT e1 e2 hwf
      subst hpa
      go_enter Try.func89, Try.ntmps89
      go_wp2_with fail
      refine I.out.mono ?_
      rintro e w1 ⟨q, rfl, ht1, hb1⟩
      have hc := nodeKeep hb1 hnb ⟨c0, c3, c4, Below.refl _ _⟩
      obtain ⟨c0', c3', c4', hB1⟩ := hc
      clear c0 c3 c4 hb1
      go_wp2_with fail
      have ht1' : IsTr w1.drew.heap.size w1.drew q T1 := ht1.drewN 1
      go_region_held3 (fun w1 => w1.cell? ⟨nb, 0, none⟩ = some (.string (bstr s)) ∧ w1.cell? ⟨nb, 3, none⟩ = some (.pointer (some ⟨lb, 0, none⟩)) ∧ w1.cell? ⟨nb, 4, none⟩ = some (.pointer pb) ∧ Below w.heap.size w w1)
        (first
          | exact ⟨c0', c3', c4', hB1.drew⟩
          | exact nodeKeep hbX hnb (by assumption))
        (first
          | (go_at_call 90; ((with_reducible refine (J.out _ _ (by assumption) (by assumption)).mono ?_); rintro e w9 ⟨p9, rfl, ht9, hbX⟩)))
      rename_i hHeld
      have hB := hHeld.2.2.2
      go_wp2_with fail
      exact bodyPost_ret (v := .tuple #[.string (bstr x), .pointer p9]) (by simp [results, Try.results89, go_sem]) rfl ⟨_, rfl, ht9, hB⟩
set_option maxRecDepth 100000 in
theorem both_any (pl pr : Option Addr) (l r : Tr) (w : World) (hl : IsTr w.heap.size w pl l) (hr : IsTr w.heap.size w pr r) (hw : Tr.wt l + Tr.wt r ≤ 1000000) :
    Calls Try.prog 48 #[.pointer pl, .pointer pr] w (TrOut w (Tr.both l r)) := by
  cases l with
  | nil =>
    obtain rfl : pl = none := hl
    have e : Tr.both .nil r = r := by unfold Tr.both; rfl
    rw [e]
    have HO := Lib.hid hr; clear hr hw e
    go_enter Try.func48, Try.ntmps48
    go_wp2_with fail
    go_ret
    exact ⟨_, rfl, HO.out, Below.refl _ _⟩
  | node a s b =>
    cases r with
    | nil =>
      obtain rfl : pr = none := hr
      have e : Tr.both (.node a s b) .nil = .node a s b := by unfold Tr.both; rfl
      rw [e]
      have HO := Lib.hid hl
      obtain ⟨nb, pa, pb, rfl, _⟩ := hl
      clear hw e
      go_enter Try.func48, Try.ntmps48
      go_wp2_with fail
      go_ret
      exact ⟨_, rfl, HO.out, Below.refl _ _⟩
    | node c t d =>
      have e : Tr.both (.node a s b) (.node c t d) = Tr.between (.node a s b) (Tr.first (.node c t d)).1 (Tr.first (.node c t d)).2 := by unfold Tr.both; rfl
      rw [e]
      have hwf := Tr.wt_first (.node c t d) (by simp)
      have f1 := first_any (.node c t d) pr w (by simp) hr (by omega)
      have g1 : ∀ (w1 : World) (q : Option Addr), Below w.heap.size w w1 → IsTr w1.heap.size w1 q (Tr.first (.node c t d)).2 → Calls Try.prog 49 #[.pointer pl, .string (bstr (Tr.first (.node c t d)).1), .pointer q] w1 (TrOut w1 (Tr.between (.node a s b) (Tr.first (.node c t d)).1 (Tr.first (.node c t d)).2)) :=
        fun w1 q hb1 hq => between_any _ pl q _ _ _ w1 (Nat.lt_succ_self _) (hl.keep hb1) hq (by omega)
      unfold FirstOut at f1
      generalize Tr.between (.node a s b) (Tr.first (.node c t d)).1 (Tr.first (.node c t d)).2 = T2 at *
      generalize (Tr.first (.node c t d)).1 = x at *
      generalize (Tr.first (.node c t d)).2 = y at *
      have F := Lib.hid f1; have G := Lib.hid g1
      clear f1 g1 hwf hw e
      obtain ⟨nb, _, _, rfl, _⟩ := hl
      obtain ⟨nc, _, _, rfl, _⟩ := hr
      go_enter Try.func48, Try.ntmps48
      go_wp2_with fail
      refine F.out.mono ?_
      rintro e w1 ⟨q, rfl, hq, hb1⟩
      go_wp2_with fail
      refine (G.out w1 q hb1 hq).mono ?_
      rintro e w2 ⟨p2, rfl, h2, hb2⟩
      go_wp2_with fail
      go_ret
      exact ⟨_, rfl, h2, hb1.trans (hb2.mono hb1.size)⟩
end Go.Proofs.Ytenhblpegobbjaa
