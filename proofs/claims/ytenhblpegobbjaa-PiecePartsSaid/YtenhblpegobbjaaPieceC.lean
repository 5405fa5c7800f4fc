/- Contracts of level, between, first, both, cut. -/
import Derived.Test.YtenhblpegobbjaaPieceB
namespace Go.Proofs.Ytenhblpegobbjaa
open Go.RowKit
open Piece
set_option linter.unusedVariables false
set_option linter.unusedSimpArgs false
set_option maxRecDepth 100000 in
theorem level_mid (pl pr : Option Addr) (l r : Tr) (s : List UInt8) (w : World) (hl : IsTr w.heap.size w pl l) (hr : IsTr w.heap.size w pr r) (hw : Tr.wt l + s.length + 1 + Tr.wt r ≤ 1000000)
    (h1 : ¬ r.high + 1 < l.high) (h2 : ¬ l.high + 1 < r.high) :
    Calls Try.prog 90 #[.pointer pl, .string (bstr s), .pointer pr] w (TrOut w (.node l s r)) := by
  have u1 := high_any _ pl _ w hl
  have u2 := high_any _ pr _ w hr
  have k1 := l.high_wt
  have k2 := r.high_wt
  have hj := join_any pl pr l r s w hl hr hw
  have b1 : l.high ≤ 1000000 := by omega
  have b2 : r.high ≤ 1000000 := by omega
  clear k1 k2 hw hl hr
  generalize l.high = x0 at *
  generalize r.high = x1 at *
  have U1 := Lib.hid u1; have U2 := Lib.hid u2; have J := Lib.hid hj
  clear u1 u2 hj
  have d0 : decide ((x0 : Int) > (x1 : Int) + 1) = false := decide_eq_false (by omega)
  have d1 : decide ((x1 : Int) > (x0 : Int) + 1) = false := decide_eq_false (by omega)
  go_enter Try.func90, Try.ntmps90
  go_wp2_with fail
  refine U1.out.mono ?_
  rintro e w' ⟨rfl, rfl⟩
  go_wp2_with fail
  refine U2.out.mono ?_
  rintro e w' ⟨rfl, rfl⟩
  go_wp2_with fail
  refine U2.out.mono ?_
  rintro e w' ⟨rfl, rfl⟩
  go_wp2_with fail
  refine U1.out.mono ?_
  rintro e w' ⟨rfl, rfl⟩
  go_wp2_with fail
  refine J.out.mono ?_
  rintro e w' ⟨p, rfl, ht, hb⟩
  go_wp2_with fail
  go_ret
  exact ⟨_, rfl, ht, hb⟩
theorem level_any (pl pr : Option Addr) (l r : Tr) (s : List UInt8) (w : World) (hl : IsTr w.heap.size w pl l) (hr : IsTr w.heap.size w pr r) (hw : Tr.wt l + s.length + 1 + Tr.wt r ≤ 1000000) :
    Calls Try.prog 90 #[.pointer pl, .string (bstr s), .pointer pr] w (TrOut w (Tr.level l s r)) := by
  by_cases h1 : r.high + 1 < l.high
  · obtain ⟨a, t, b, rfl⟩ := Tr.high_nil (t := l) (by omega)
    by_cases h2 : a.high < b.high
    · obtain ⟨c, u, d, rfl⟩ := Tr.high_nil (t := b) (by omega)
      have e : Tr.level (.node a t (.node c u d)) s r = .node (.node a t c) u (.node d s r) := by unfold Tr.level; rw [if_pos h1]; simp only []; rw [if_pos h2]
      rw [e]; exact level_left2 pl pr a c d r s t u w hl hr hw h1 h2
    · have e : Tr.level (.node a t b) s r = .node a t (.node b s r) := by unfold Tr.level; rw [if_pos h1]; simp only []; rw [if_neg h2]
      rw [e]; exact level_left1 pl pr a b r s t w hl hr hw h1 h2
  · by_cases h3 : l.high + 1 < r.high
    · obtain ⟨a, t, b, rfl⟩ := Tr.high_nil (t := r) (by omega)
      by_cases h2 : b.high < a.high
      · obtain ⟨c, u, d, rfl⟩ := Tr.high_nil (t := a) (by omega)
        have e : Tr.level l s (.node (.node c u d) t b) = .node (.node l s c) u (.node d t b) := by unfold Tr.level; rw [if_neg h1, if_pos h3]; simp only []; rw [if_pos h2]
        rw [e]; exact level_right2 pl pr l b c d s t u w hl hr hw h3 h2
      · have e : Tr.level l s (.node a t b) = .node (.node l s a) t b := by unfold Tr.level; rw [if_neg h1, if_pos h3]; simp only []; rw [if_neg h2]
        rw [e]; exact level_right1 pl pr l a b s t w hl hr hw h3 h2
    · have e : Tr.level l s r = .node l s r := by unfold Tr.level; rw [if_neg h1, if_neg h3]
      rw [e]; exact level_mid pl pr l r s w hl hr hw h1 h3
set_option maxRecDepth 100000 in
set_option maxHeartbeats 2000000 in
theorem between_any (n : Nat) : ∀ (pl pr : Option Addr) (l r : Tr) (s : List UInt8) (w : World) (hn : l.count + r.count < n) (hl : IsTr w.heap.size w pl l) (hr : IsTr w.heap.size w pr r) (hw : Tr.wt l + s.length + 1 + Tr.wt r ≤ 1000000),
    Calls Try.prog 49 #[.pointer pl, .string (bstr s), .pointer pr] w (TrOut w (Tr.between l s r)) := by
  induction n with
  | zero =>
    intro pl pr l r s w hn hl hr hw
    omega
  | succ n ih =>
    intro pl pr l r s w hn hl hr hw
    have u1 := high_any _ pl _ w hl
    have u2 := high_any _ pr _ w hr
    have k1 := l.high_wt
    have k2 := r.high_wt
    have b1 : l.high ≤ 1000000 := by omega
    have b2 : r.high ≤ 1000000 := by omega
    clear k1 k2
    by_cases h1 : r.high + 1 < l.high
    · obtain ⟨a, t, b, rfl⟩ := Tr.high_nil (t := l) (by omega)
      have e : Tr.between (.node a t b) s r = Tr.level a t (Tr.between b s r) := by rw [Tr.between.eq_def, if_pos h1]
      rw [e]
      obtain ⟨nb, pa, pb, rfl, hnb, c0, c1, c2, c3, c4, ha, hb⟩ := hl
      simp only [Tr.wt_node] at hw
      simp only [Tr.count] at hn
      have hj1 : ∀ w1 : World, w1.cell? ⟨nb, 0, none⟩ = some (.string (bstr t)) ∧ w1.cell? ⟨nb, 3, none⟩ = some (.pointer pa) ∧ w1.cell? ⟨nb, 4, none⟩ = some (.pointer pb) ∧ Below w.heap.size w w1 → Calls Try.prog 49 #[.pointer pb, .string (bstr s), .pointer pr] w1 (TrOut w1 (Tr.between b s r)) := fun w1 hb1 => ih pb pr b r s w1 (by omega) (hb.keep hb1.2.2.2) (hr.keep hb1.2.2.2) (by omega)
      have hj2 : ∀ (w1 : World) (q : Option Addr), w1.cell? ⟨nb, 0, none⟩ = some (.string (bstr t)) ∧ w1.cell? ⟨nb, 3, none⟩ = some (.pointer pa) ∧ w1.cell? ⟨nb, 4, none⟩ = some (.pointer pb) ∧ Below w.heap.size w w1 → IsTr w1.heap.size w1 q (Tr.between b s r) → Calls Try.prog 90 #[.pointer pa, .string (bstr t), .pointer q] w1 (TrOut w1 (Tr.level a t (Tr.between b s r))) := fun w1 q hb1 hq => level_any pa q a _ t w1 (ha.keep hb1.2.2.2) hq (by rw [Tr.wt_between]; omega)
      generalize (Tr.node a t b).high = x0 at *
      generalize r.high = x1 at *
      generalize Tr.between b s r = T1 at *
      generalize Tr.level a t T1 = T2 at *
      clear c1 c2 ha hb hr hw hn ih
      have U1 := Lib.hid u1; have U2 := Lib.hid u2; have J1 := Lib.hid hj1; have J2 := Lib.hid hj2
      clear u1 u2 hj1 hj2
      have d1 : decide ((x0 : Int) > (x1 : Int) + 1) = true := decide_eq_true (by omega)
      go_enter Try.func49, Try.ntmps49
      go_wp2_with fail
      refine U1.out.mono ?_
      rintro e w' ⟨rfl, rfl⟩
      go_wp2_with fail
      refine U2.out.mono ?_
      rintro e w' ⟨rfl, rfl⟩
      go_wp2_with fail
      go_region_held3 (fun w1 => w1.cell? ⟨nb, 0, none⟩ = some (.string (bstr t)) ∧ w1.cell? ⟨nb, 3, none⟩ = some (.pointer pa) ∧ w1.cell? ⟨nb, 4, none⟩ = some (.pointer pb) ∧ Below w.heap.size w w1)
        (first
          | exact ⟨c0, c3, c4, (Below.refl _ _).drew⟩
          | exact nodeKeep hbX hnb (by assumption))
        (first
          | (go_at_call 49; ((with_reducible refine (J1.out _ (by assumption)).mono ?_); rintro e w9 ⟨p9, rfl, ht9, hbX⟩))
          | (go_at_call 90; ((with_reducible refine (J2.out _ _ (by assumption) (by assumption)).mono ?_); rintro e w9 ⟨p9, rfl, ht9, hbX⟩)))
      rename_i hHeld
      have hB := hHeld.2.2.2
      go_wp2_with fail
      go_ret
      exact ⟨_, rfl, ht9, hB⟩
    · by_cases h3 : l.high + 1 < r.high
      · obtain ⟨a, t, b, rfl⟩ := Tr.high_nil (t := r) (by omega)
        have e : Tr.between l s (.node a t b) = Tr.level (Tr.between l s a) t b := by rw [Tr.between.eq_def, if_neg h1, if_pos h3]
        rw [e]
        obtain ⟨nb, pa, pb, rfl, hnb, c0, c1, c2, c3, c4, ha, hb⟩ := hr
        simp only [Tr.wt_node] at hw
        simp only [Tr.count] at hn
        have hj1 : ∀ w1 : World, w1.cell? ⟨nb, 0, none⟩ = some (.string (bstr t)) ∧ w1.cell? ⟨nb, 3, none⟩ = some (.pointer pa) ∧ w1.cell? ⟨nb, 4, none⟩ = some (.pointer pb) ∧ Below w.heap.size w w1 → Calls Try.prog 49 #[.pointer pl, .string (bstr s), .pointer pa] w1 (TrOut w1 (Tr.between l s a)) := fun w1 hb1 => ih pl pa l a s w1 (by omega) (hl.keep hb1.2.2.2) (ha.keep hb1.2.2.2) (by omega)
        have hj2 : ∀ (w1 : World) (q : Option Addr), w1.cell? ⟨nb, 0, none⟩ = some (.string (bstr t)) ∧ w1.cell? ⟨nb, 3, none⟩ = some (.pointer pa) ∧ w1.cell? ⟨nb, 4, none⟩ = some (.pointer pb) ∧ Below w.heap.size w w1 → IsTr w1.heap.size w1 q (Tr.between l s a) → Calls Try.prog 90 #[.pointer q, .string (bstr t), .pointer pb] w1 (TrOut w1 (Tr.level (Tr.between l s a) t b)) := fun w1 q hb1 hq => level_any q pb _ b t w1 hq (hb.keep hb1.2.2.2) (by rw [Tr.wt_between]; omega)
        generalize (Tr.node a t b).high = x1 at *
        generalize l.high = x0 at *
        generalize Tr.between l s a = T1 at *
        generalize Tr.level T1 t b = T2 at *
        clear c1 c2 ha hb hl hw hn ih
        have U1 := Lib.hid u1; have U2 := Lib.hid u2; have J1 := Lib.hid hj1; have J2 := Lib.hid hj2
        clear u1 u2 hj1 hj2
        have d0 : decide ((x0 : Int) > (x1 : Int) + 1) = false := decide_eq_false (by omega)
        have d1 : decide ((x1 : Int) > (x0 : Int) + 1) = true := decide_eq_true (by omega)
        go_enter Try.func49, Try.ntmps49
        go_wp2_with fail
        refine U1.out.mono ?_
        rintro e w' ⟨rfl, rfl⟩
        go_wp2_with fail
        refine U2.out.mono ?_
        rintro e w' ⟨rfl, rfl⟩
        go_wp2_with fail
        refine U2.out.mono ?_
        rintro e w' ⟨rfl, rfl⟩
        go_wp2_with fail
        refine U1.out.mono ?_
        rintro e w' ⟨rfl, rfl⟩
        go_wp2_with fail
        go_region_held3 (fun w1 => w1.cell? ⟨nb, 0, none⟩ = some (.string (bstr t)) ∧ w1.cell? ⟨nb, 3, none⟩ = some (.pointer pa) ∧ w1.cell? ⟨nb, 4, none⟩ = some (.pointer pb) ∧ Below w.heap.size w w1)
          (first
            | exact ⟨c0, c3, c4, (Below.refl _ _).drew⟩
            | exact nodeKeep hbX hnb (by assumption))
          (first
            | (go_at_call 49; ((with_reducible refine (J1.out _ (by assumption)).mono ?_); rintro e w9 ⟨p9, rfl, ht9, hbX⟩))
            | (go_at_call 90; ((with_reducible refine (J2.out _ _ (by assumption) (by assumption)).mono ?_); rintro e w9 ⟨p9, rfl, ht9, hbX⟩)))
        rename_i hHeld
        have hB := hHeld.2.2.2
        go_wp2_with fail
        go_ret
        exact ⟨_, rfl, ht9, hB⟩
      · have e : Tr.between l s r = .node l s r := by rw [Tr.between.eq_def, if_neg h1, if_neg h3]
        rw [e]
        have hj := join_any pl pr l r s w hl hr hw
        clear hl hr hw hn ih e
        generalize l.high = x0 at *
        generalize r.high = x1 at *
        have U1 := Lib.hid u1; have U2 := Lib.hid u2; have J := Lib.hid hj
        clear u1 u2 hj
        have d0 : decide ((x0 : Int) > (x1 : Int) + 1) = false := decide_eq_false (by omega)
        have d1 : decide ((x1 : Int) > (x0 : Int) + 1) = false := decide_eq_false (by omega)
        go_enter Try.func49, Try.ntmps49
        go_wp2_with fail
        refine U1.out.mono ?_
        rintro e w' ⟨rfl, rfl⟩
        go_wp2_with fail
        refine U2.out.mono ?_
        rintro e w' ⟨rfl, rfl⟩
        go_wp2_with fail
        refine U2.out.mono ?_
        rintro e w' ⟨rfl, rfl⟩
        go_wp2_with fail
        refine U1.out.mono ?_
        rintro e w' ⟨rfl, rfl⟩
        go_wp2_with fail
        refine J.out.mono ?_
        rintro e w' ⟨p, rfl, ht, hb⟩
        go_wp2_with fail
        go_ret
        exact ⟨_, rfl, ht, hb⟩
end Go.Proofs.Ytenhblpegobbjaa
