/- Of, Edit; the fact pieced. -/
import Derived.Test.YtenhblpegobbjaaPieceG
import Derived.Test.YtenhblpegobbjaaPick
namespace Go.Proofs.Ytenhblpegobbjaa
open Go.RowKit Go.Shelf
open Piece
set_option linter.unusedVariables false
set_option linter.unusedSimpArgs false
theorem box_below {W W' : World} {B g : Nat} {t : TypeId} {v : Value} (h : Boxed W g t v) (hb : Below B W W') (hg : g < B) : Boxed W' g t v := (hb.block g hg).trans h
theorem box_one {W : World} {g : Nat} {t : TypeId} {v : Value} (h : Boxed W g t v) : W.cell? ⟨g, 1, none⟩ = none := by simp [World.cell?, show W.heap[g]? = _ from h]
theorem IsTr.setBox {n₀ : Nat} {W : World} {g : Nat} {t : TypeId} {v : Value} (hg : Boxed W g t v) (u : Value) : ∀ {p : Option Addr} {T : Tr}, IsTr n₀ W p T → IsTr n₀ (W.setCell ⟨g, 0, none⟩ u) p T
  | _, .nil, h => h
  | _, .node _ _ _, ⟨b, pl, pr, hp, hb, h0, h1, h2, h3, h4, hl, hr⟩ => by
    have hne : b ≠ g := fun e => by rw [e, box_one hg] at h1; cases h1
    have hk : ∀ i, (W.setCell ⟨g, 0, none⟩ u).cell? ⟨b, i, none⟩ = W.cell? ⟨b, i, none⟩ := fun i => World.cell?_of_block (w := W) (w' := W.setCell ⟨g, 0, none⟩ u) (a := ⟨b, i, none⟩) (Below.heap_setCell W ⟨g, 0, none⟩ u b hne)
    exact ⟨b, pl, pr, hp, hb, (hk 0).trans h0, (hk 1).trans h1, (hk 2).trans h2, (hk 3).trans h3, (hk 4).trans h4, IsTr.setBox hg u hl, IsTr.setBox hg u hr⟩
theorem IsTr.outBox {W : World} {g : Nat} {t : TypeId} {v : Value} {p : Option Addr} {T : Tr} (h : IsTr W.heap.size W p T) (hg : Boxed W g t v) (u : Value) : IsTr (W.setCell ⟨g, 0, none⟩ u).heap.size (W.setCell ⟨g, 0, none⟩ u) p T :=
  (h.setBox hg u).up ((Below.refl g W).setCell (p := ⟨g, 0, none⟩) (Nat.le_refl _) u).size
/-- what a call answers that makes a text -/
def TextOut (w : World) (T : Tr) (e : Ending) (w' : World) : Prop := ∃ p, e = .returned (.agg #[.pointer p]) ∧ IsTr w'.heap.size w' p T ∧ Below w.heap.size w w'
set_option maxRecDepth 100000 in
theorem Of_one (s : List UInt8) (w : World) (hs : s.length ≤ 100000) :
    Calls Try.prog 15 #[.string (bstr s)] w (TextOut w (Tr.one s)) := by
  have hb := (Below.refl w.heap.size w).alloc (Nat.le_refl _) (.cells #[.pointer none] 26)
  have hrow := Boxed.new w 26 (.pointer none)
  obtain ⟨w0, hw0⟩ : ∃ w0, w0 = w.alloc (.cells #[.pointer none] 26) := ⟨_, rfl⟩
  rw [← hw0] at hb hrow
  by_cases h : s = []
  · subst h
    have e : Tr.one [] = .nil := rfl
    rw [e]
    have HW := Lib.hid hw0
    go_enter Try.func15, Try.ntmps15
    go_wp2_with fail
    rw [← HW.out]
    have hc := hrow.cell
    exact bodyPost_ret (v := .agg #[.pointer none]) (by simp [results, Try.results15, go_sem, hc]) rfl ⟨none, rfl, rfl, hb⟩
  · have e : Tr.one s = .node .nil s .nil := if_neg h
    rw [e]
    have hj := join_any none none .nil .nil s w0 rfl rfl (by rw [Tr.wt_nil]; omega)
    have he : s.isEmpty = false := by cases s with | nil => exact absurd rfl h | cons _ _ => rfl
    have HJ := Lib.hid hj
    have HW := Lib.hid hw0; clear hw0 hj
    have hlt : w.heap.size < w0.heap.size := hrow.lt
    go_enter Try.func15, Try.ntmps15
    go_wp2_with fail
    rw [← HW.out]
    refine HJ.out.mono ?_
    rintro e w1 ⟨q, rfl, hq, hb1⟩
    have hr1 := box_below hrow hb1 hlt
    have hf1 := hr1.frozen
    have hc1 := hr1.cell
    go_wp2_with fail
    have hbb := hb.trans (hb1.mono hb.size)
    have hset := (Below.refl w.heap.size w1).setCell (p := ⟨w.heap.size, 0, none⟩) (Nat.le_refl _) (.pointer q)
    have hcn := (hr1.set (.pointer q)).cell
    exact bodyPost_ret (v := .agg #[.pointer q]) (by simp [results, Try.results15, go_sem, hcn]) rfl ⟨q, rfl, hq.outBox hr1 _, hbb.trans hset⟩
set_option maxRecDepth 100000 in
set_option maxHeartbeats 2000000 in
theorem Edit_any (p : Option Addr) (T : Tr) (a o : Nat) (s : List UInt8) (w : World) (h : IsTr w.heap.size w p T) (hf : T.full) (hw : Tr.wt T ≤ 100000) (hao : a + o ≤ T.text.length) (hl : s.length + (T.text.length - o) ≤ 4000) :
    Calls Try.prog 16 #[.agg #[.pointer p], .int .i64 a, .int .i64 o, .string (bstr s)] w fun e w' => ∃ q, e = .returned (.tuple #[.agg #[.pointer q], .nilIface]) ∧ IsTr w'.heap.size w' q (Tr.edit T a o s) ∧ Below w.heap.size w w' := by
  have hwb := T.text_len_wt
  obtain ⟨x1, x2⟩ := Tr.cut_text T a hf (by omega)
  obtain ⟨f1, f2, _⟩ := Tr.cut_full T a hf (by omega)
  have y1 := Tr.wt_cut T a
  have y2 := Tr.wt_cut (Tr.cut T a).2 o
  have hb0 := ((Below.refl w.heap.size w).alloc (Nat.le_refl _) (.cells #[.pointer p] 26)).alloc (by simp) (.cells #[.pointer none] 26)
  have h0 := h.keep hb0
  have hr1 := ((RowAt.new w 26 #[.pointer p]).alloc (.cells #[.pointer none] 26))
  have hr2 := Boxed.new (w.alloc (.cells #[.pointer p] 26)) 26 (.pointer none)
  rw [World.size_alloc] at hr2
  obtain ⟨w0, hw0⟩ : ∃ w0, w0 = (w.alloc (.cells #[.pointer p] 26)).alloc (.cells #[.pointer none] 26) := ⟨_, rfl⟩
  rw [← hw0] at hb0 h0 hr1 hr2
  have HW := Lib.hid hw0; clear hw0
  have hlen := fun w1 hb1 => Len_any p T _ w1 (h0.keep (B := w1) hb1) (Nat.le_refl _)
  have hc1 := fun w1 hb1 => cut_any T p a w1 (h0.keep (B := w1) hb1) (by omega) (by omega)
  have hc2 := fun w1 q hq => cut_any (Tr.cut T a).2 q o w1 hq (by omega) (by omega)
  have hj1 := fun (w1 : World) q1 q2 (h1 : IsTr w1.heap.size w1 q1 (Tr.cut T a).1) (h2 : IsTr w1.heap.size w1 q2 (Tr.cut (Tr.cut T a).2 o).2) => between_any _ q1 q2 _ _ s w1 (Nat.lt_succ_self _) h1 h2 (by omega)
  have hj2 := fun (w1 : World) q1 q2 (h1 : IsTr w1.heap.size w1 q1 (Tr.cut T a).1) (h2 : IsTr w1.heap.size w1 q2 (Tr.cut (Tr.cut T a).2 o).2) => both_any q1 q2 _ _ w1 h1 h2 (by omega)
  have q0 : decide ((a : Int) < 0) = false := decide_eq_false (by omega)
  have q1 : decide ((o : Int) < 0) = false := decide_eq_false (by omega)
  have q2 : decide ((T.text.length : Int) - (o : Int) < (a : Int)) = false := decide_eq_false (by omega)
  have q3 : decide ((4000 : Int) - ((T.text.length : Int) - (o : Int)) < (s.length : Int)) = false := decide_eq_false (by omega)
  have hTL : T.text.length ≤ 100000 := by omega
  have hoT : o ≤ T.text.length := by omega
  have haT : a ≤ T.text.length := by omega
  unfold CutOut at hc1 hc2
  unfold Tr.edit
  generalize Tr.both (Tr.cut T a).1 (Tr.cut (Tr.cut T a).2 o).2 = X1 at *
  generalize Tr.between (Tr.cut T a).1 s (Tr.cut (Tr.cut T a).2 o).2 = X2 at *
  generalize (Tr.cut (Tr.cut T a).2 o).2 = U2 at *
  generalize (Tr.cut (Tr.cut T a).2 o).1 = U1 at *
  generalize (Tr.cut T a).2 = V2 at *
  generalize (Tr.cut T a).1 = V1 at *
  obtain ⟨X, hX⟩ : ∃ X, X = if s = [] then X1 else X2 := ⟨_, rfl⟩
  rw [← hX]
  have HX := Lib.hid hX; clear hX
  generalize T.text.length = n at *
  have LN := Lib.hid hlen; have C1 := Lib.hid hc1; have C2 := Lib.hid hc2; have J1 := Lib.hid hj1; have J2 := Lib.hid hj2
  have HB0 := Lib.hid hb0
  clear hlen hc1 hc2 hj1 hj2 x1 x2 f1 f2 y1 y2 h hf hw hwb h0 hb0
  have z1 := hr1.cell0 0 (by simp)
  simp only [List.getElem_cons_zero] at z1
  have l1 := hr1.lt
  have l2 := hr2.lt
  go_enter Try.func16, Try.ntmps16
  go_wp2_with fail
  rw [← HW.out]
  refine (LN.out w0 (Below.refl _ _)).mono ?_
  rintro e w1 ⟨rfl, hb1⟩
  have z2 := (hb1.cell (p := ⟨w.heap.size, 0, none⟩) l1).trans z1
  go_wp2_with fail
  refine (LN.out w1 hb1).mono ?_
  rintro e w2 ⟨rfl, hb2⟩
  have hb12 := hb1.trans (hb2.mono hb1.size)
  have z3 := (hb12.cell (p := ⟨w.heap.size, 0, none⟩) l1).trans z1
  clear z2 hb1 hb2
  go_wp2_with fail
  refine (C1.out w2 hb12).mono ?_
  rintro e w3 ⟨p1, p2, rfl, t1, t2, hb3⟩
  have hb13 := hb12.trans (hb3.mono hb12.size)
  clear z3 hb12 hb3
  go_wp2_with fail
  refine (C2.out w3 p2 t2).mono ?_
  rintro e w4 ⟨p3, p4, rfl, t3, t4, hb4⟩
  have t1' := t1.keep hb4
  have hb14 := hb13.trans (hb4.mono hb13.size)
  clear t1 t2 t3 hb13 hb4
  have r2 := box_below hr2 hb14 l2
  have hbe := HB0.out.trans (hb14.mono HB0.out.size)
  have HBE := Lib.hid hbe
  clear hbe hb14
  by_cases hs : s = []
  · have he : s.isEmpty = true := by rw [hs]; rfl
    rw [if_pos hs] at HX
    have HS := Lib.hid hs; clear hs
    go_wp2_with fail
    refine (J2.out w4 p1 p4 t1' t4).mono ?_
    rintro e w5 ⟨q, rfl, hq, hb5⟩
    have l2' := r2.lt
    have r5 := box_below r2 hb5 l2'
    have hf5 := r5.frozen
    have hc5 := r5.cell
    have hcn := (r5.set (.pointer q)).cell
    have hset := (Below.refl w.heap.size w5).setCell (p := ⟨w.heap.size + 1, 0, none⟩) (Nat.le_succ _) (.pointer q)
    have hfin := (HBE.out.trans (hb5.mono HBE.out.size)).trans hset
    have hout := hq.outBox r5 (.pointer q)
    have HF := Lib.hid (And.intro hfin hout)
    clear hfin hout hset hb5 hq
    go_wp2_with fail
    exact bodyPost_ret (v := .tuple #[.agg #[.pointer q], .nilIface]) (by simp [results, Try.results16, go_sem, hcn]) rfl ⟨q, rfl, by rw [HX.out]; exact HF.out.2, HF.out.1⟩
  · have he : s.isEmpty = false := by cases s with | nil => exact absurd rfl hs | cons _ _ => rfl
    rw [if_neg hs] at HX
    have HS := Lib.hid hs; clear hs
    go_wp2_with fail
    refine (J1.out w4 p1 p4 t1' t4).mono ?_
    rintro e w5 ⟨q, rfl, hq, hb5⟩
    have l2' := r2.lt
    have r5 := box_below r2 hb5 l2'
    have hf5 := r5.frozen
    have hc5 := r5.cell
    have hcn := (r5.set (.pointer q)).cell
    have hset := (Below.refl w.heap.size w5).setCell (p := ⟨w.heap.size + 1, 0, none⟩) (Nat.le_succ _) (.pointer q)
    have hfin := (HBE.out.trans (hb5.mono HBE.out.size)).trans hset
    have hout := hq.outBox r5 (.pointer q)
    have HF := Lib.hid (And.intro hfin hout)
    clear hfin hout hset hb5 hq
    go_wp2_with fail
    exact bodyPost_ret (v := .tuple #[.agg #[.pointer q], .nilIface]) (by simp [results, Try.results16, go_sem, hcn]) rfl ⟨q, rfl, by rw [HX.out]; exact HF.out.2, HF.out.1⟩
end Go.Proofs.Ytenhblpegobbjaa
