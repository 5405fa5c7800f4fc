/- Contract of level. -/
import Derived.Test.YtenhblpegobbjaaPieceA
import Derived.Deep.RegionHeld3
namespace Go.Proofs.Ytenhblpegobbjaa
open Go.RowKit
open Piece
set_option linter.unusedVariables false
set_option linter.unusedSimpArgs false
/-- a node's five cells, and that what lay below stays -/
def NodeAt (w0 : World) (b : Nat) (s : List UInt8) (pl pr : Option Addr) (w : World) : Prop :=
  w.cell? ⟨b, 0, none⟩ = some (.string (bstr s)) ∧ w.cell? ⟨b, 3, none⟩ = some (.pointer pl) ∧ w.cell? ⟨b, 4, none⟩ = some (.pointer pr) ∧ Below w0.heap.size w0 w
theorem nodeKeep {w0 w1 w2 : World} {b : Nat} {s : List UInt8} {pl pr : Option Addr} (hb : Below w1.heap.size w1 w2) (hlt : b < w0.heap.size) (h : w1.cell? ⟨b, 0, none⟩ = some (.string (bstr s)) ∧ w1.cell? ⟨b, 3, none⟩ = some (.pointer pl) ∧ w1.cell? ⟨b, 4, none⟩ = some (.pointer pr) ∧ Below w0.heap.size w0 w1) :
    w2.cell? ⟨b, 0, none⟩ = some (.string (bstr s)) ∧ w2.cell? ⟨b, 3, none⟩ = some (.pointer pl) ∧ w2.cell? ⟨b, 4, none⟩ = some (.pointer pr) ∧ Below w0.heap.size w0 w2 := by
  obtain ⟨h0, h1, h2, h3⟩ := h
  have hb' : b < w1.heap.size := Nat.lt_of_lt_of_le hlt h3.size
  exact ⟨(hb.cell (p := ⟨b, 0, none⟩) hb').trans h0, (hb.cell (p := ⟨b, 3, none⟩) hb').trans h1, (hb.cell (p := ⟨b, 4, none⟩) hb').trans h2, h3.trans (hb.mono h3.size)⟩
theorem nodeKeep2 {w0 w1 w2 : World} {b m : Nat} {s u : List UInt8} {pl pr pc pd : Option Addr} (hb : Below w1.heap.size w1 w2) (hlt : b < w0.heap.size) (hlm : m < w0.heap.size)
    (h : (w1.cell? ⟨b, 0, none⟩ = some (.string (bstr s)) ∧ w1.cell? ⟨b, 3, none⟩ = some (.pointer pl) ∧ w1.cell? ⟨b, 4, none⟩ = some (.pointer pr) ∧ Below w0.heap.size w0 w1) ∧ w1.cell? ⟨m, 0, none⟩ = some (.string (bstr u)) ∧ w1.cell? ⟨m, 3, none⟩ = some (.pointer pc) ∧ w1.cell? ⟨m, 4, none⟩ = some (.pointer pd) ∧ Below w0.heap.size w0 w1) :
    (w2.cell? ⟨b, 0, none⟩ = some (.string (bstr s)) ∧ w2.cell? ⟨b, 3, none⟩ = some (.pointer pl) ∧ w2.cell? ⟨b, 4, none⟩ = some (.pointer pr) ∧ Below w0.heap.size w0 w2) ∧ w2.cell? ⟨m, 0, none⟩ = some (.string (bstr u)) ∧ w2.cell? ⟨m, 3, none⟩ = some (.pointer pc) ∧ w2.cell? ⟨m, 4, none⟩ = some (.pointer pd) ∧ Below w0.heap.size w0 w2 :=
  ⟨nodeKeep hb hlt h.1, nodeKeep hb hlm h.2⟩
set_option maxRecDepth 100000 in
set_option maxHeartbeats 2000000 in
theorem level_left1 (pl pr : Option Addr) (a b r : Tr) (s t : List UInt8) (w : World) (hl : IsTr w.heap.size w pl (.node a t b)) (hr : IsTr w.heap.size w pr r) (hw : Tr.wt (.node a t b) + s.length + 1 + Tr.wt r ≤ 1000000)
    (h1 : r.high + 1 < (Tr.node a t b).high) (h2 : ¬ a.high < b.high) :
    Calls Try.prog 90 #[.pointer pl, .string (bstr s), .pointer pr] w (TrOut w (.node a t (.node b s r))) := by
  have u1 := high_any _ pl _ w hl
  have u2 := high_any _ pr _ w hr
  obtain ⟨nb, pa, pb, rfl, hnb, c0, c1, c2, c3, c4, ha, hb⟩ := hl
  have v1 := fun k => high_any _ pa a (w.drewN k) (ha.drewN k)
  have v2 := fun k => high_any _ pb b (w.drewN k) (hb.drewN k)
  have k1 := (Tr.node a t b).high_wt
  have k2 := r.high_wt
  have k3 := a.high_wt
  have k4 := b.high_wt
  rw [Tr.wt_node] at hw k1
  have hj1 : ∀ w1 : World, w1.cell? ⟨nb, 0, none⟩ = some (.string (bstr t)) ∧ w1.cell? ⟨nb, 3, none⟩ = some (.pointer pa) ∧ w1.cell? ⟨nb, 4, none⟩ = some (.pointer pb) ∧ Below w.heap.size w w1 → Calls Try.prog 46 #[.pointer pb, .string (bstr s), .pointer pr] w1 (TrOut w1 (.node b s r)) := fun w1 hb1 => join_any pb pr b r s w1 (hb.keep hb1.2.2.2) (hr.keep hb1.2.2.2) (by omega)
  have hj2 : ∀ (w1 : World) (q : Option Addr), w1.cell? ⟨nb, 0, none⟩ = some (.string (bstr t)) ∧ w1.cell? ⟨nb, 3, none⟩ = some (.pointer pa) ∧ w1.cell? ⟨nb, 4, none⟩ = some (.pointer pb) ∧ Below w.heap.size w w1 → IsTr w1.heap.size w1 q (.node b s r) → Calls Try.prog 46 #[.pointer pa, .string (bstr t), .pointer q] w1 (TrOut w1 (.node a t (.node b s r))) := fun w1 q hb1 hq => join_any pa q a _ t w1 (ha.keep hb1.2.2.2) hq (by rw [Tr.wt_node]; omega)
  have b1 : (Tr.node a t b).high ≤ 1000000 := by
    try simp only [Tr.wt_node] at k1
    omega
  have b2 : r.high ≤ 1000000 := by omega
  have b3 : a.high ≤ 1000000 := by
    try simp only [Tr.wt_node] at k3
    omega
  have b4 : b.high ≤ 1000000 := by
    try simp only [Tr.wt_node] at k4
    omega
  clear k1 k2 k3 k4 c1 c2 ha hb hw hr
  generalize (Tr.node a t b).high = x0 at *
  generalize r.high = x1 at *
  generalize a.high = x2 at *
  generalize b.high = x3 at *
  have U1 := Lib.hid u1; have U2 := Lib.hid u2; have V1 := Lib.hid v1; have V2 := Lib.hid v2; have J1 := Lib.hid hj1; have J2 := Lib.hid hj2
  clear u1 u2 v1 v2 hj1 hj2
  have d1 : decide ((x0 : Int) > (x1 : Int) + 1) = true := decide_eq_true (by omega)
  have d2 : decide ((x2 : Int) < (x3 : Int)) = false := decide_eq_false (by omega)
  go_enter Try.func90, Try.ntmps90
  go_wp2_with fail
  refine U1.out.mono ?_
  rintro e w' ⟨rfl, rfl⟩
  go_wp2_with fail
  refine U2.out.mono ?_
  rintro e w' ⟨rfl, rfl⟩
  go_wp2_with fail
  go_quiet (first | (go_at_call_of 51 (pa : Option Addr); with_reducible exact Calls.quiet_of_same (turn (V1.out _))) | (go_at_call_of 51 (pb : Option Addr); with_reducible exact Calls.quiet_of_same (turn (V2.out _))))
  have hb5 := bdrewN (Below.refl w.heap.size w) nq
  have c0' := (hb5.cell (p := ⟨nb, 0, none⟩) hnb).trans c0
  have c3' := (hb5.cell (p := ⟨nb, 3, none⟩) hnb).trans c3
  have c4' := (hb5.cell (p := ⟨nb, 4, none⟩) hnb).trans c4
  clear c0 c3 c4 V1 V2 U1 U2
  generalize w.drewN nq = w5 at *
  go_wp2_with fail
  go_region_held3 (fun w1 => w1.cell? ⟨nb, 0, none⟩ = some (.string (bstr t)) ∧ w1.cell? ⟨nb, 3, none⟩ = some (.pointer pa) ∧ w1.cell? ⟨nb, 4, none⟩ = some (.pointer pb) ∧ Below w.heap.size w w1)
    (first
      | exact ⟨c0', c3', c4', hb5.drew⟩
      | exact nodeKeep hbX hnb (by assumption))
    (first
      | (go_at_call 46; ((with_reducible refine (J1.out _ (by assumption)).mono ?_); rintro e w9 ⟨p9, rfl, ht9, hbX⟩))
      | (go_at_call 46; ((with_reducible refine (J2.out _ _ (by assumption) (by assumption)).mono ?_); rintro e w9 ⟨p9, rfl, ht9, hbX⟩)))
  rename_i hHeld
  have hB := hHeld.2.2.2
  go_wp2_with fail
  go_ret
  exact ⟨_, rfl, ht9, hB⟩
set_option maxRecDepth 100000 in
set_option maxHeartbeats 2000000 in
theorem level_right1 (pl pr : Option Addr) (l a b : Tr) (s t : List UInt8) (w : World) (hl : IsTr w.heap.size w pl l) (hr : IsTr w.heap.size w pr (.node a t b)) (hw : Tr.wt l + s.length + 1 + Tr.wt (.node a t b) ≤ 1000000)
    (h1 : l.high + 1 < (Tr.node a t b).high) (h2 : ¬ b.high < a.high) :
    Calls Try.prog 90 #[.pointer pl, .string (bstr s), .pointer pr] w (TrOut w (.node (.node l s a) t b)) := by
  have u1 := high_any _ pl _ w hl
  have u2 := high_any _ pr _ w hr
  obtain ⟨nb, pa, pb, rfl, hnb, c0, c1, c2, c3, c4, ha, hb⟩ := hr
  have v1 := fun k => high_any _ pa a (w.drewN k) (ha.drewN k)
  have v2 := fun k => high_any _ pb b (w.drewN k) (hb.drewN k)
  have k1 := (Tr.node a t b).high_wt
  have k2 := l.high_wt
  have k3 := a.high_wt
  have k4 := b.high_wt
  rw [Tr.wt_node] at hw k1
  have hj1 : ∀ w1 : World, w1.cell? ⟨nb, 0, none⟩ = some (.string (bstr t)) ∧ w1.cell? ⟨nb, 3, none⟩ = some (.pointer pa) ∧ w1.cell? ⟨nb, 4, none⟩ = some (.pointer pb) ∧ Below w.heap.size w w1 → Calls Try.prog 46 #[.pointer pl, .string (bstr s), .pointer pa] w1 (TrOut w1 (.node l s a)) := fun w1 hb1 => join_any pl pa l a s w1 (hl.keep hb1.2.2.2) (ha.keep hb1.2.2.2) (by omega)
  have hj2 : ∀ (w1 : World) (q : Option Addr), w1.cell? ⟨nb, 0, none⟩ = some (.string (bstr t)) ∧ w1.cell? ⟨nb, 3, none⟩ = some (.pointer pa) ∧ w1.cell? ⟨nb, 4, none⟩ = some (.pointer pb) ∧ Below w.heap.size w w1 → IsTr w1.heap.size w1 q (.node l s a) → Calls Try.prog 46 #[.pointer q, .string (bstr t), .pointer pb] w1 (TrOut w1 (.node (.node l s a) t b)) := fun w1 q hb1 hq => join_any q pb _ b t w1 hq (hb.keep hb1.2.2.2) (by rw [Tr.wt_node]; omega)
  have b1 : (Tr.node a t b).high ≤ 1000000 := by
    try simp only [Tr.wt_node] at k1
    omega
  have b2 : l.high ≤ 1000000 := by omega
  have b3 : a.high ≤ 1000000 := by
    try simp only [Tr.wt_node] at k3
    omega
  have b4 : b.high ≤ 1000000 := by
    try simp only [Tr.wt_node] at k4
    omega
  clear k1 k2 k3 k4 c1 c2 ha hb hw hl
  generalize (Tr.node a t b).high = x0 at *
  generalize l.high = x1 at *
  generalize a.high = x2 at *
  generalize b.high = x3 at *
  have U1 := Lib.hid u1; have U2 := Lib.hid u2; have V1 := Lib.hid v1; have V2 := Lib.hid v2; have J1 := Lib.hid hj1; have J2 := Lib.hid hj2
  clear u1 u2 v1 v2 hj1 hj2
  have d0 : decide ((x1 : Int) > (x0 : Int) + 1) = false := decide_eq_false (by omega)
  have d1 : decide ((x0 : Int) > (x1 : Int) + 1) = true := decide_eq_true (by omega)
  have d2 : decide ((x3 : Int) < (x2 : Int)) = false := decide_eq_false (by omega)
  go_enter Try.func90, Try.ntmps90
  go_wp2_with fail
  refine U1.out.mono ?_
  rintro e w' ⟨rfl, rfl⟩
  go_wp2_with fail
  refine U2.out.mono ?_
  rintro e w' ⟨rfl, rfl⟩
  go_wp2_with fail
  refine U2.out.mono ?_
  rintro e w' ⟨rfl, rfl⟩
  go_wp2_with fail
  refine U1.out.mono ?_
  rintro e w' ⟨rfl, rfl⟩
  go_wp2_with fail
  go_quiet (first | (go_at_call_of 51 (pa : Option Addr); with_reducible exact Calls.quiet_of_same (turn (V1.out _))) | (go_at_call_of 51 (pb : Option Addr); with_reducible exact Calls.quiet_of_same (turn (V2.out _))))
  have hb5 := bdrewN (Below.refl w.heap.size w) nq
  have c0' := (hb5.cell (p := ⟨nb, 0, none⟩) hnb).trans c0
  have c3' := (hb5.cell (p := ⟨nb, 3, none⟩) hnb).trans c3
  have c4' := (hb5.cell (p := ⟨nb, 4, none⟩) hnb).trans c4
  clear c0 c3 c4 V1 V2 U1 U2
  generalize w.drewN nq = w5 at *
  go_wp2_with fail
  go_region_held3 (fun w1 => w1.cell? ⟨nb, 0, none⟩ = some (.string (bstr t)) ∧ w1.cell? ⟨nb, 3, none⟩ = some (.pointer pa) ∧ w1.cell? ⟨nb, 4, none⟩ = some (.pointer pb) ∧ Below w.heap.size w w1)
    (first
      | exact ⟨c0', c3', c4', hb5.drew⟩
      | exact nodeKeep hbX hnb (by assumption))
    (first
      | (go_at_call 46; ((with_reducible refine (J1.out _ (by assumption)).mono ?_); rintro e w9 ⟨p9, rfl, ht9, hbX⟩))
      | (go_at_call 46; ((with_reducible refine (J2.out _ _ (by assumption) (by assumption)).mono ?_); rintro e w9 ⟨p9, rfl, ht9, hbX⟩)))
  rename_i hHeld
  have hB := hHeld.2.2.2
  go_wp2_with fail
  go_ret
  exact ⟨_, rfl, ht9, hB⟩
set_option maxRecDepth 100000 in
set_option maxHeartbeats 2000000 in
theorem level_left2 (pl pr : Option Addr) (a c d r : Tr) (s t u : List UInt8) (w : World) (hl : IsTr w.heap.size w pl (.node a t (.node c u d))) (hr : IsTr w.heap.size w pr r) (hw : Tr.wt (.node a t (.node c u d)) + s.length + 1 + Tr.wt r ≤ 1000000)
    (h1 : r.high + 1 < (Tr.node a t (Tr.node c u d)).high) (h2 : a.high < (Tr.node c u d).high) :
    Calls Try.prog 90 #[.pointer pl, .string (bstr s), .pointer pr] w (TrOut w (.node (.node a t c) u (.node d s r))) := by
  have u1 := high_any _ pl _ w hl
  have u2 := high_any _ pr _ w hr
  obtain ⟨nb, pa, pb, rfl, hnb, c0, c1, c2, c3, c4, ha, hb⟩ := hl
  have v1 := fun k => high_any _ pa a (w.drewN k) (ha.drewN k)
  have v2 := fun k => high_any _ pb (Tr.node c u d) (w.drewN k) (hb.drewN k)
  have k1 := (Tr.node a t (Tr.node c u d)).high_wt
  have k2 := r.high_wt
  have k3 := a.high_wt
  have k4 := (Tr.node c u d).high_wt
  rw [Tr.wt_node] at hw k1
  have hbig := hb
  obtain ⟨mb, pc, pd, rfl, hmb, m0, m1, m2, m3, m4, hc, hd⟩ := hbig
  simp only [Tr.wt_node] at hw
  have hj1 : ∀ w1 : World, (w1.cell? ⟨nb, 0, none⟩ = some (.string (bstr t)) ∧ w1.cell? ⟨nb, 3, none⟩ = some (.pointer pa) ∧ w1.cell? ⟨nb, 4, none⟩ = some (.pointer (some ⟨mb, 0, none⟩)) ∧ Below w.heap.size w w1) ∧ w1.cell? ⟨mb, 0, none⟩ = some (.string (bstr u)) ∧ w1.cell? ⟨mb, 3, none⟩ = some (.pointer pc) ∧ w1.cell? ⟨mb, 4, none⟩ = some (.pointer pd) ∧ Below w.heap.size w w1 → Calls Try.prog 46 #[.pointer pa, .string (bstr t), .pointer pc] w1 (TrOut w1 (.node a t c)) := fun w1 hb1 => join_any pa pc a c t w1 (ha.keep hb1.2.2.2.2) (hc.keep hb1.2.2.2.2) (by omega)
  have hj2 : ∀ w1 : World, (w1.cell? ⟨nb, 0, none⟩ = some (.string (bstr t)) ∧ w1.cell? ⟨nb, 3, none⟩ = some (.pointer pa) ∧ w1.cell? ⟨nb, 4, none⟩ = some (.pointer (some ⟨mb, 0, none⟩)) ∧ Below w.heap.size w w1) ∧ w1.cell? ⟨mb, 0, none⟩ = some (.string (bstr u)) ∧ w1.cell? ⟨mb, 3, none⟩ = some (.pointer pc) ∧ w1.cell? ⟨mb, 4, none⟩ = some (.pointer pd) ∧ Below w.heap.size w w1 → Calls Try.prog 46 #[.pointer pd, .string (bstr s), .pointer pr] w1 (TrOut w1 (.node d s r)) := fun w1 hb1 => join_any pd pr d r s w1 (hd.keep hb1.2.2.2.2) (hr.keep hb1.2.2.2.2) (by omega)
  have hj3 : ∀ (w1 : World) (q q2 : Option Addr), (w1.cell? ⟨nb, 0, none⟩ = some (.string (bstr t)) ∧ w1.cell? ⟨nb, 3, none⟩ = some (.pointer pa) ∧ w1.cell? ⟨nb, 4, none⟩ = some (.pointer (some ⟨mb, 0, none⟩)) ∧ Below w.heap.size w w1) ∧ w1.cell? ⟨mb, 0, none⟩ = some (.string (bstr u)) ∧ w1.cell? ⟨mb, 3, none⟩ = some (.pointer pc) ∧ w1.cell? ⟨mb, 4, none⟩ = some (.pointer pd) ∧ Below w.heap.size w w1 → IsTr w1.heap.size w1 q (.node a t c) → IsTr w1.heap.size w1 q2 (.node d s r) → Calls Try.prog 46 #[.pointer q, .string (bstr u), .pointer q2] w1 (TrOut w1 (.node (.node a t c) u (.node d s r))) := fun w1 q q2 hb1 hq hq2 => join_any q q2 _ _ u w1 hq hq2 (by simp only [Tr.wt_node]; omega)
  have b1 : (Tr.node a t (Tr.node c u d)).high ≤ 1000000 := by
    try simp only [Tr.wt_node] at k1
    omega
  have b2 : r.high ≤ 1000000 := by omega
  have b3 : a.high ≤ 1000000 := by
    try simp only [Tr.wt_node] at k3
    omega
  have b4 : (Tr.node c u d).high ≤ 1000000 := by
    try simp only [Tr.wt_node] at k4
    omega
  clear k1 k2 k3 k4 c1 c2 ha hb hw hr m1 m2 hc hd
  generalize (Tr.node a t (Tr.node c u d)).high = x0 at *
  generalize r.high = x1 at *
  generalize a.high = x2 at *
  generalize (Tr.node c u d).high = x3 at *
  have U1 := Lib.hid u1; have U2 := Lib.hid u2; have V1 := Lib.hid v1; have V2 := Lib.hid v2; have J1 := Lib.hid hj1; have J2 := Lib.hid hj2; have J3 := Lib.hid hj3
  clear u1 u2 v1 v2 hj1 hj2 hj3
  have d1 : decide ((x0 : Int) > (x1 : Int) + 1) = true := decide_eq_true (by omega)
  have d2 : decide ((x2 : Int) < (x3 : Int)) = true := decide_eq_true (by omega)
  go_enter Try.func90, Try.ntmps90
  go_wp2_with fail
  refine U1.out.mono ?_
  rintro e w' ⟨rfl, rfl⟩
  go_wp2_with fail
  refine U2.out.mono ?_
  rintro e w' ⟨rfl, rfl⟩
  go_wp2_with fail
  go_quiet (first | (go_at_call_of 51 (pa : Option Addr); with_reducible exact Calls.quiet_of_same (turn (V1.out _))) | (go_at_call_of 51 ((some ⟨mb, 0, none⟩) : Option Addr); with_reducible exact Calls.quiet_of_same (turn (V2.out _))))
  have hb5 := bdrewN (Below.refl w.heap.size w) nq
  have c0' := (hb5.cell (p := ⟨nb, 0, none⟩) hnb).trans c0
  have c3' := (hb5.cell (p := ⟨nb, 3, none⟩) hnb).trans c3
  have c4' := (hb5.cell (p := ⟨nb, 4, none⟩) hnb).trans c4
  have m0' := (hb5.cell (p := ⟨mb, 0, none⟩) hmb).trans m0
  have m3' := (hb5.cell (p := ⟨mb, 3, none⟩) hmb).trans m3
  have m4' := (hb5.cell (p := ⟨mb, 4, none⟩) hmb).trans m4
  clear m0 m3 m4
  clear c0 c3 c4 V1 V2 U1 U2
  generalize w.drewN nq = w5 at *
  go_wp2_with fail
  go_region_held3 (fun w1 => (w1.cell? ⟨nb, 0, none⟩ = some (.string (bstr t)) ∧ w1.cell? ⟨nb, 3, none⟩ = some (.pointer pa) ∧ w1.cell? ⟨nb, 4, none⟩ = some (.pointer (some ⟨mb, 0, none⟩)) ∧ Below w.heap.size w w1) ∧ w1.cell? ⟨mb, 0, none⟩ = some (.string (bstr u)) ∧ w1.cell? ⟨mb, 3, none⟩ = some (.pointer pc) ∧ w1.cell? ⟨mb, 4, none⟩ = some (.pointer pd) ∧ Below w.heap.size w w1)
    (first
      | exact ⟨⟨c0', c3', c4', hb5.drew⟩, m0', m3', m4', hb5.drew⟩
      | exact nodeKeep2 hbX hnb hmb (by assumption))
    (first
      | (go_at_call 46; ((with_reducible refine (J1.out _ (by assumption)).mono ?_); rintro e w9 ⟨p9, rfl, ht9, hbX⟩))
      | (go_at_call 46; ((with_reducible refine (J2.out _ (by assumption)).mono ?_); rintro e w9 ⟨p9, rfl, ht9, hbX⟩))
      | (go_at_call 46; ((with_reducible refine (J3.out _ _ _ (by assumption) (by first | assumption | exact IsTr.keep (by assumption) (by assumption)) (by first | assumption | exact IsTr.keep (by assumption) (by assumption))).mono ?_); rintro e w9 ⟨p9, rfl, ht9, hbX⟩)))
  all_goals rename_i hHeld
  all_goals have hB := hHeld.2.2.2.2
  all_goals go_wp2_with fail
  all_goals go_ret
  all_goals exact ⟨_, rfl, ht9, hB⟩
set_option maxRecDepth 100000 in
set_option maxHeartbeats 2000000 in
theorem level_right2 (pl pr : Option Addr) (l b c d : Tr) (s t u : List UInt8) (w : World) (hl : IsTr w.heap.size w pl l) (hr : IsTr w.heap.size w pr (.node (.node c u d) t b)) (hw : Tr.wt l + s.length + 1 + Tr.wt (.node (.node c u d) t b) ≤ 1000000)
    (h1 : l.high + 1 < (Tr.node (Tr.node c u d) t b).high) (h2 : b.high < (Tr.node c u d).high) :
    Calls Try.prog 90 #[.pointer pl, .string (bstr s), .pointer pr] w (TrOut w (.node (.node l s c) u (.node d t b))) := by
  have u1 := high_any _ pl _ w hl
  have u2 := high_any _ pr _ w hr
  obtain ⟨nb, pa, pb, rfl, hnb, c0, c1, c2, c3, c4, ha, hb⟩ := hr
  have v1 := fun k => high_any _ pa (Tr.node c u d) (w.drewN k) (ha.drewN k)
  have v2 := fun k => high_any _ pb b (w.drewN k) (hb.drewN k)
  have k1 := (Tr.node (Tr.node c u d) t b).high_wt
  have k2 := l.high_wt
  have k3 := (Tr.node c u d).high_wt
  have k4 := b.high_wt
  rw [Tr.wt_node] at hw k1
  have hbig := ha
  obtain ⟨mb, pc, pd, rfl, hmb, m0, m1, m2, m3, m4, hc, hd⟩ := hbig
  simp only [Tr.wt_node] at hw
  have hj1 : ∀ w1 : World, (w1.cell? ⟨nb, 0, none⟩ = some (.string (bstr t)) ∧ w1.cell? ⟨nb, 3, none⟩ = some (.pointer (some ⟨mb, 0, none⟩)) ∧ w1.cell? ⟨nb, 4, none⟩ = some (.pointer pb) ∧ Below w.heap.size w w1) ∧ w1.cell? ⟨mb, 0, none⟩ = some (.string (bstr u)) ∧ w1.cell? ⟨mb, 3, none⟩ = some (.pointer pc) ∧ w1.cell? ⟨mb, 4, none⟩ = some (.pointer pd) ∧ Below w.heap.size w w1 → Calls Try.prog 46 #[.pointer pl, .string (bstr s), .pointer pc] w1 (TrOut w1 (.node l s c)) := fun w1 hb1 => join_any pl pc l c s w1 (hl.keep hb1.2.2.2.2) (hc.keep hb1.2.2.2.2) (by omega)
  have hj2 : ∀ w1 : World, (w1.cell? ⟨nb, 0, none⟩ = some (.string (bstr t)) ∧ w1.cell? ⟨nb, 3, none⟩ = some (.pointer (some ⟨mb, 0, none⟩)) ∧ w1.cell? ⟨nb, 4, none⟩ = some (.pointer pb) ∧ Below w.heap.size w w1) ∧ w1.cell? ⟨mb, 0, none⟩ = some (.string (bstr u)) ∧ w1.cell? ⟨mb, 3, none⟩ = some (.pointer pc) ∧ w1.cell? ⟨mb, 4, none⟩ = some (.pointer pd) ∧ Below w.heap.size w w1 → Calls Try.prog 46 #[.pointer pd, .string (bstr t), .pointer pb] w1 (TrOut w1 (.node d t b)) := fun w1 hb1 => join_any pd pb d b t w1 (hd.keep hb1.2.2.2.2) (hb.keep hb1.2.2.2.2) (by omega)
  have hj3 : ∀ (w1 : World) (q q2 : Option Addr), (w1.cell? ⟨nb, 0, none⟩ = some (.string (bstr t)) ∧ w1.cell? ⟨nb, 3, none⟩ = some (.pointer (some ⟨mb, 0, none⟩)) ∧ w1.cell? ⟨nb, 4, none⟩ = some (.pointer pb) ∧ Below w.heap.size w w1) ∧ w1.cell? ⟨mb, 0, none⟩ = some (.string (bstr u)) ∧ w1.cell? ⟨mb, 3, none⟩ = some (.pointer pc) ∧ w1.cell? ⟨mb, 4, none⟩ = some (.pointer pd) ∧ Below w.heap.size w w1 → IsTr w1.heap.size w1 q (.node l s c) → IsTr w1.heap.size w1 q2 (.node d t b) → Calls Try.prog 46 #[.pointer q, .string (bstr u), .pointer q2] w1 (TrOut w1 (.node (.node l s c) u (.node d t b))) := fun w1 q q2 hb1 hq hq2 => join_any q q2 _ _ u w1 hq hq2 (by simp only [Tr.wt_node]; omega)
  have b1 : (Tr.node (Tr.node c u d) t b).high ≤ 1000000 := by
    try simp only [Tr.wt_node] at k1
    omega
  have b2 : l.high ≤ 1000000 := by omega
  have b3 : (Tr.node c u d).high ≤ 1000000 := by
    try simp only [Tr.wt_node] at k3
    omega
  have b4 : b.high ≤ 1000000 := by
    try simp only [Tr.wt_node] at k4
    omega
  clear k1 k2 k3 k4 c1 c2 ha hb hw hl m1 m2 hc hd
  generalize (Tr.node (Tr.node c u d) t b).high = x0 at *
  generalize l.high = x1 at *
  generalize (Tr.node c u d).high = x2 at *
  generalize b.high = x3 at *
  have U1 := Lib.hid u1; have U2 := Lib.hid u2; have V1 := Lib.hid v1; have V2 := Lib.hid v2; have J1 := Lib.hid hj1; have J2 := Lib.hid hj2; have J3 := Lib.hid hj3
  clear u1 u2 v1 v2 hj1 hj2 hj3
  have d0 : decide ((x1 : Int) > (x0 : Int) + 1) = false := decide_eq_false (by omega)
  have d1 : decide ((x0 : Int) > (x1 : Int) + 1) = true := decide_eq_true (by omega)
  have d2 : decide ((x3 : Int) < (x2 : Int)) = true := decide_eq_true (by omega)
  go_enter Try.func90, Try.ntmps90
  go_wp2_with fail
  refine U1.out.mono ?_
  rintro e w' ⟨rfl, rfl⟩
  go_wp2_with fail
  refine U2.out.mono ?_
  rintro e w' ⟨rfl, rfl⟩
  go_wp2_with fail
  refine U2.out.mono ?_
  rintro e w' ⟨rfl, rfl⟩
  go_wp2_with fail
  refine U1.out.mono ?_
  rintro e w' ⟨rfl, rfl⟩
  go_wp2_with fail
  go_quiet (first | (go_at_call_of 51 ((some ⟨mb, 0, none⟩) : Option Addr); with_reducible exact Calls.quiet_of_same (turn (V1.out _))) | (go_at_call_of 51 (pb : Option Addr); with_reducible exact Calls.quiet_of_same (turn (V2.out _))))
  have hb5 := bdrewN (Below.refl w.heap.size w) nq
  have c0' := (hb5.cell (p := ⟨nb, 0, none⟩) hnb).trans c0
  have c3' := (hb5.cell (p := ⟨nb, 3, none⟩) hnb).trans c3
  have c4' := (hb5.cell (p := ⟨nb, 4, none⟩) hnb).trans c4
  have m0' := (hb5.cell (p := ⟨mb, 0, none⟩) hmb).trans m0
  have m3' := (hb5.cell (p := ⟨mb, 3, none⟩) hmb).trans m3
  have m4' := (hb5.cell (p := ⟨mb, 4, none⟩) hmb).trans m4
  clear m0 m3 m4
  clear c0 c3 c4 V1 V2 U1 U2
  generalize w.drewN nq = w5 at *
  go_wp2_with fail
  go_region_held3 (fun w1 => (w1.cell? ⟨nb, 0, none⟩ = some (.string (bstr t)) ∧ w1.cell? ⟨nb, 3, none⟩ = some (.pointer (some ⟨mb, 0, none⟩)) ∧ w1.cell? ⟨nb, 4, none⟩ = some (.pointer pb) ∧ Below w.heap.size w w1) ∧ w1.cell? ⟨mb, 0, none⟩ = some (.string (bstr u)) ∧ w1.cell? ⟨mb, 3, none⟩ = some (.pointer pc) ∧ w1.cell? ⟨mb, 4, none⟩ = some (.pointer pd) ∧ Below w.heap.size w w1)
    (first
      | exact ⟨⟨c0', c3', c4', hb5.drew⟩, m0', m3', m4', hb5.drew⟩
      | exact nodeKeep2 hbX hnb hmb (by assumption))
    (first
      | (go_at_call 46; ((with_reducible refine (J1.out _ (by assumption)).mono ?_); rintro e w9 ⟨p9, rfl, ht9, hbX⟩))
      | (go_at_call 46; ((with_reducible refine (J2.out _ (by assumption)).mono ?_); rintro e w9 ⟨p9, rfl, ht9, hbX⟩))
      | (go_at_call 46; ((with_reducible refine (J3.out _ _ _ (by assumption) (by first | assumption | exact IsTr.keep (by assumption) (by assumption)) (by first | assumption | exact IsTr.keep (by assumption) (by assumption))).mono ?_); rintro e w9 ⟨p9, rfl, ht9, hbX⟩)))
  all_goals rename_i hHeld
  all_goals have hB := hHeld.2.2.2.2
  all_goals go_wp2_with fail
  all_goals go_ret
  all_goals exact ⟨_, rfl, ht9, hB⟩
end Go.Proofs.Ytenhblpegobbjaa
