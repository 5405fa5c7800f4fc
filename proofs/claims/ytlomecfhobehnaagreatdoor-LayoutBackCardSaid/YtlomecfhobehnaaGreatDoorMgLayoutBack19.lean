/- How tmpl.item and tmpl.block end; Take as a choice. -/
import Derived.Maps.OwnSet
import Derived.Test.YtlomecfhobehnaaGreatDoorMgLayoutBack18
import Derived.Test.YtlomecfhobehnaaGreatDoorMgLayoutBack15
section
/- Items in memory: what stays, what stands one behind the other; the result's box filled. -/
namespace Go.Proofs.YtlomecfhobehnaaGreatDoor
open Go.RowKit
set_option linter.unusedVariables false
set_option linter.unusedSimpArgs false
open Rd
theorem RowAt.ty {w : World} {g o o' : Nat} {e e' : TypeId} {xs ys : List Value} (h : RowAt w g o e xs) (h' : RowAt w g o' e' ys) : e = e' := by
  obtain ⟨c, z, h1, _⟩ := h
  obtain ⟨c', z', h1', _⟩ := h'
  rw [h1] at h1'
  cases h1'
  rfl
/-- each block that holds an expression's node stays -/
def KeepX (w w' : World) (rb : Nat) : Prop := ∀ g xs, rb < g → RowAt w g 0 202 xs → w'.heap[g]? = w.heap[g]?
theorem IsX.keep {w w' : World} {rb : Nat} (hk : KeepX w w' rb) : ∀ (x : Ex.X) (b : Nat), IsX w rb b x → IsX w' rb b x
  | .num a n, b, h => ⟨h.1, h.2.of_heap (hk b _ h.1 h.2)⟩
  | .name a s, b, h => ⟨h.1, h.2.of_heap (hk b _ h.1 h.2)⟩
  | .bin a op l r, b, h => by
    obtain ⟨bl, br, h1, h2, h3, h4⟩ := h
    exact ⟨bl, br, h1, h2.of_heap (hk b _ h1 h2), IsX.keep hk l bl h3, IsX.keep hk r br h4⟩
namespace Tm
theorem CntV.keep {w w' : World} {rb : Nat} (hk : KeepX w w' rb) {c : Option Ex.X} {v : Value} (h : CntV w rb c v) : CntV w' rb c v := by
  cases c with
  | none => exact h
  | some x =>
    obtain ⟨b, h1, h2⟩ := h
    exact ⟨b, h1, IsX.keep hk x b h2⟩
theorem Enc.keep {w w' : World} {rb : Nat} {ok : Nat → Prop} (hk : KeepX w w' rb) (ho : ∀ b, ok b → w'.heap[b]? = w.heap[b]?) : ∀ (l : Its) (vs : List Value), Enc w rb ok l vs → Enc w' rb ok l vs
  | .nil, vs, e => e
  | .cons a l, vs, e => by
    obtain ⟨cv, us, h1, h2, h3⟩ := e
    exact ⟨cv, us, h1.keep hk, h2, Enc.keep hk ho l us h3⟩
  | .when a c b l, vs, e => by
    obtain ⟨cb, ga, cap, bs, us, h1, h2, h3, h4, h5, h6⟩ := e
    exact ⟨cb, ga, cap, bs, us, IsX.keep hk c cb h1, h2.keep fun x hx => ho _ (h3 x hx), h3, Enc.keep hk ho b bs h4, h5, Enc.keep hk ho l us h6⟩
theorem Enc.lt {w : World} {rb : Nat} {ok : Nat → Prop} : ∀ (l : Its) (vs : List Value), Enc w rb ok l vs → Enc w rb (fun b => ok b ∧ b < w.heap.size) l vs
  | .nil, vs, e => e
  | .cons a l, vs, e => by
    obtain ⟨cv, us, h1, h2, h3⟩ := e
    exact ⟨cv, us, h1, h2, Enc.lt l us h3⟩
  | .when a c b l, vs, e => by
    obtain ⟨cb, ga, cap, bs, us, h1, h2, h3, h4, h5, h6⟩ := e
    exact ⟨cb, ga, cap, bs, us, h1, h2, fun x hx => ⟨h3 x hx, h2.blk_lt x hx⟩, Enc.lt b bs h4, h5, Enc.lt l us h6⟩
theorem Enc.app {w : World} {rb : Nat} {ok : Nat → Prop} {m : Its} {us : List Value} (hm : Enc w rb ok m us) : ∀ (l : Its) (vs : List Value), Enc w rb ok l vs → Enc w rb ok (l.app m) (vs ++ us)
  | .nil, vs, e => by rw [show vs = [] from e]; exact hm
  | .cons a l, vs, e => by
    obtain ⟨cv, ys, h1, rfl, h3⟩ := e
    exact ⟨cv, ys ++ us, h1, by rw [List.append_assoc], Enc.app hm l ys h3⟩
  | .when a c b l, vs, e => by
    obtain ⟨cb, ga, cap, bs, ys, h1, h2, h3, h4, rfl, h6⟩ := e
    exact ⟨cb, ga, cap, bs, ys ++ us, h1, h2, h3, h4, by rw [List.append_assoc], Enc.app hm l ys h6⟩
/-- the cells of one item -/
theorem Enc.cells {w : World} {rb : Nat} {ok : Nat → Prop} {I : Its} {vs : List Value} (hI : I.len = 1) (h : Enc w rb ok I vs) : ∃ (k0 k1 k4 k5 k9 : Nat) (s2 s3 s10 s11 : ByteArray) (b6 b7 : Bool) (p8 a12 : Option Addr) (n12 c12 : Nat),
    vs = [.int .i64 (k0 : Nat), .int .i64 (k1 : Nat), .string s2, .string s3, .int .i64 (k4 : Nat), .int .i64 (k5 : Nat), .bool b6, .bool b7, .pointer p8, .int .i64 (k9 : Nat), .string s10, .string s11, .slice a12 n12 c12] := by
  have z : ∀ (l : Its) (us : List Value), l.len = 0 → Enc w rb ok l us → us = [] := by
    intro l us h1 h2
    cases l with
    | nil => exact h2
    | cons => simp [Its.len] at h1
    | when => simp [Its.len] at h1
  cases I with
  | nil => simp [Its.len] at hI
  | cons a l =>
    obtain ⟨cv, us, h1, rfl, h3⟩ := h
    rw [z l us (by simpa [Its.len] using hI) h3, List.append_nil]
    cases hc : a.cnt with
    | none => rw [hc] at h1; rw [show cv = .pointer none from h1]; exact ⟨_, _, _, _, _, _, _, _, _, _, _, _, _, _, _, rfl⟩
    | some x =>
      rw [hc] at h1
      obtain ⟨b, rfl, _⟩ := h1
      exact ⟨_, _, _, _, _, _, _, _, _, _, _, _, _, _, _, rfl⟩
  | when a c b l =>
    obtain ⟨cb, ga, cap, bs, us, h1, h2, h3, h4, rfl, h6⟩ := h
    rw [z l us (by simpa [Its.len] using hI) h6, List.append_nil]
    exact ⟨_, _, 0, 0, 0, _, _, _, _, _, _, _, _, _, _, rfl⟩
end Tm
/-- the result's box, stored -/
abbrev st13 (w : World) (b : Nat) (v0 v1 v2 v3 v4 v5 v6 v7 v8 v9 v10 v11 v12 : Value) : World :=
  (((((((((((((w.setCell ⟨b, 0, none⟩ v0).setCell ⟨b, 1, none⟩ v1).setCell ⟨b, 2, none⟩ v2).setCell ⟨b, 3, none⟩ v3).setCell ⟨b, 4, none⟩ v4).setCell ⟨b, 5, none⟩ v5).setCell ⟨b, 6, none⟩ v6).setCell ⟨b, 7, none⟩ v7).setCell ⟨b, 8, none⟩ v8).setCell ⟨b, 9, none⟩ v9).setCell ⟨b, 10, none⟩ v10).setCell ⟨b, 11, none⟩ v11).setCell ⟨b, 12, none⟩ v12)
theorem st13_row {w : World} {b : Nat} {T : TypeId} {ys : List Value} (h : RowAt w b 0 T ys) (hy : ys.length = 13) (v0 v1 v2 v3 v4 v5 v6 v7 v8 v9 v10 v11 v12 : Value) : RowAt (st13 w b v0 v1 v2 v3 v4 v5 v6 v7 v8 v9 v10 v11 v12) b 0 T [v0, v1, v2, v3, v4, v5, v6, v7, v8, v9, v10, v11, v12] := by
  match ys, hy with
  | [a0, a1, a2, a3, a4, a5, a6, a7, a8, a9, a10, a11, a12], _ =>
    exact ((((((((((((h.set0 0 (by simp) v0).set0 1 (by simp) v1).set0 2 (by simp) v2).set0 3 (by simp) v3).set0 4 (by simp) v4).set0 5 (by simp) v5).set0 6 (by simp) v6).set0 7 (by simp) v7).set0 8 (by simp) v8).set0 9 (by simp) v9).set0 10 (by simp) v10).set0 11 (by simp) v11).set0 12 (by simp) v12
theorem st13_far {w : World} {b : Nat} (v0 v1 v2 v3 v4 v5 v6 v7 v8 v9 v10 v11 v12 : Value) (g : Nat) (hg : g ≠ b) : (st13 w b v0 v1 v2 v3 v4 v5 v6 v7 v8 v9 v10 v11 v12).heap[g]? = w.heap[g]? := by
  have k : ∀ (W : World) (i : Nat) (v : Value), (W.setCell ⟨b, i, none⟩ v).heap[g]? = W.heap[g]? := fun W i v => Below.heap_setCell W ⟨b, i, none⟩ v g hg
  unfold st13
  iterate 13 rw [k]
theorem st13_size {w : World} {b : Nat} (v0 v1 v2 v3 v4 v5 v6 v7 v8 v9 v10 v11 v12 : Value) : (st13 w b v0 v1 v2 v3 v4 v5 v6 v7 v8 v9 v10 v11 v12).heap.size = w.heap.size := by
  unfold st13
  simp only [World.size_setCell]
theorem ItSt.setX {w0 w : World} {rb yb xb E : Nat} {R : List Rd.Tok} {ys cs : List Value} (h : ItSt w0 w rb yb xb E R ys cs) (k : Nat) (v : Value) {x : Ex.X} {b : Nat} (hx : IsX w rb b x) : IsX (w.setCell ⟨xb, k, none⟩ v) rb b x := by
  refine IsX.keep (fun g xs _ hg => Below.heap_setCell w ⟨xb, k, none⟩ v g ?_) x b hx
  rintro rfl
  exact absurd (h.row.ty hg) (by decide)
/-- item's end -/
theorem ItSt.fin {w0 w : World} {rb yb xb E : Nat} {R : List Rd.Tok} {ys cs : List Value} (h : ItSt w0 w rb yb xb E R ys cs) (hy : ys.length = 13) (v0 v1 v2 v3 v4 v5 v6 v7 v8 v9 v10 v11 v12 : Value) :
    Rdr (st13 w yb v0 v1 v2 v3 v4 v5 v6 v7 v8 v9 v10 v11 v12) rb R E ∧ w0.grownBy (st13 w yb v0 v1 v2 v3 v4 v5 v6 v7 v8 v9 v10 v11 v12) (some rb) ∧ KeepX w (st13 w yb v0 v1 v2 v3 v4 v5 v6 v7 v8 v9 v10 v11 v12) rb := by
  have hne : rb < yb := by have := h.lt; have := h.ylo; omega
  refine ⟨?_, ?_, ?_⟩
  · exact (((((((((((((h.rd.setX hne v0).setX hne v1).setX hne v2).setX hne v3).setX hne v4).setX hne v5).setX hne v6).setX hne v7).setX hne v8).setX hne v9).setX hne v10).setX hne v11).setX hne v12)
  · exact up_setX (up_setX (up_setX (up_setX (up_setX (up_setX (up_setX (up_setX (up_setX (up_setX (up_setX (up_setX (up_setX h.gr h.ylo v0) h.ylo v1) h.ylo v2) h.ylo v3) h.ylo v4) h.ylo v5) h.ylo v6) h.ylo v7) h.ylo v8) h.ylo v9) h.ylo v10) h.ylo v11) h.ylo v12
  · intro g xs _ hg
    refine st13_far _ _ _ _ _ _ _ _ _ _ _ _ _ g ?_
    rintro rfl
    have := h.yrow.ty hg
    exact absurd this (by decide)
/-- a cell of the item stored, then item's end: what stays -/
theorem ItSt.fin2 {w0 w : World} {rb yb xb E : Nat} {R : List Rd.Tok} {ys cs : List Value} (h : ItSt w0 w rb yb xb E R ys cs) (k : Nat) (v v0 v1 v2 v3 v4 v5 v6 v7 v8 v9 v10 v11 v12 : Value) :
    KeepX w (st13 (w.setCell ⟨xb, k, none⟩ v) yb v0 v1 v2 v3 v4 v5 v6 v7 v8 v9 v10 v11 v12) rb ∧ ∀ b, b ≠ xb → b ≠ yb → (st13 (w.setCell ⟨xb, k, none⟩ v) yb v0 v1 v2 v3 v4 v5 v6 v7 v8 v9 v10 v11 v12).heap[b]? = w.heap[b]? := by
  have hk : ∀ b, b ≠ xb → b ≠ yb → (st13 (w.setCell ⟨xb, k, none⟩ v) yb v0 v1 v2 v3 v4 v5 v6 v7 v8 v9 v10 v11 v12).heap[b]? = w.heap[b]? := fun b h1 h2 => (st13_far _ _ _ _ _ _ _ _ _ _ _ _ _ b h2).trans (Below.heap_setCell w ⟨xb, k, none⟩ v b h1)
  refine ⟨fun g xs _ hg => hk g ?_ ?_, hk⟩
  · rintro rfl; exact absurd (h.row.ty hg) (by decide)
  · rintro rfl; exact absurd (h.yrow.ty hg) (by decide)
end Go.Proofs.YtlomecfhobehnaaGreatDoor
end
section
/- layout's reader: one of an item, bytes. -/
namespace Go.Proofs.YtlomecfhobehnaaGreatDoor
open Go Go.RowKit
set_option linter.unusedVariables false
set_option linter.unusedSimpArgs false
open Rd
open Ly
theorem isX_up {V w : World} {rb bx : Nat} {x : Ex.X} (h : IsX V rb bx x) (hb : Below V.heap.size V w) : IsX w rb bx x := IsX.keep (fun g xs _ hr => hb.block g hr.lt) x bx h
set_option maxRecDepth 100000 in
set_option maxHeartbeats 1000000 in
theorem one_bytes (b m n rb cb : Nat) (F : Value) (s : Tm.Wd) (g o : Nat) (st : St) (S : Sub) (N : Ex.Names) (h : Tm.Hd) (c : Ex.X) (U w : World) (hL : LR w b F s st) (hg : g ≠ b) (hs : s.length ≤ 1000000) (hk : h.k = .bytes) (hc : h.cnt = some c)
    (hf : Ex.Fine Num.numOf Num.dec c) (hU : Below U.heap.size U w) (hbU : U.heap.size ≤ b) (hx : IsX U rb cb c) (hN : NmM w m n N) (hm : m ≠ b)
    (hr : RowAt w g o 70 (Tm.hdCells h (.pointer (some ⟨cb, 0, none⟩)))) :
    Calls Tryz.prog 30 #[.pointer (some ⟨b, 0, none⟩), .pointer (some ⟨g, o, none⟩), .map (some m)] w (OneOut w b none F s st (oneH S s N h st)) := by
  have hglt := hr.lt
  have hblt := hL.row.lt
  obtain ⟨W0, hW0⟩ : ∃ W0, W0 = w.alloc (.cells zeroNd.toArray 28) := ⟨_, rfl⟩
  have hr0 : RowAt W0 g o 70 (Tm.hdCells h (.pointer (some ⟨cb, 0, none⟩))) := by rw [hW0]; exact hr.alloc _
  have hL0 : LR W0 b F s st := by rw [hW0]; exact hL.keep (Below.heap_alloc _ _ _ hblt)
  have c0 := hr0.cell 0 (by simp [Tm.hdCells_len])
  have c2 := hr0.cell 2 (by simp [Tm.hdCells_len])
  have hnd := node_any b F s (h.name) 2 g o st W0 hL0 hg c2
  have c0' : W0.cell? ⟨g, o, none⟩ = some (.int .i64 2) := by
    have := c0
    simp only [Tm.hdCells, hk, Tm.kindN, List.getElem_cons_zero, Nat.add_zero] at this
    exact this
  have HND := Lib.hid (show Calls Tryz.prog 60 #[.pointer (some ⟨b, 0, none⟩), .pointer (some ⟨g, o, none⟩), .int .i64 2] W0 (NodOut W0 b F s (h.name) 2 st) from hnd)
  have HR0 := Lib.hid hr0
  have HL := Lib.hid hL
  rw [hW0] at c0'
  have HW0 := Lib.hid hW0
  clear hnd c0 c2 hr0 hL0 hr hL hW0
  go_enter Tryz.func30, Tryz.ntmps30
  go_wp2_with fail
  rw [← HW0.out]
  refine HND.out.mono ?_
  intro e w1 hno
  unfold NodOut at hno
  cases hn : nod st with
  | none =>
    rw [hn] at hno
    obtain ⟨hb1, t, v, he⟩ := hno
    unfold thrownL at he
    subst he
    have HB1 := Lib.hid hb1
    have ho : oneH S s N h st = none := by unfold oneH; rw [hn]; rfl
    rw [ho]
    clear hb1 ho hn
    go_wp2_with fail
    exact ⟨rfl, one_bad HW0.out HB1.out hblt, t, v, rfl⟩
  | some st1 =>
    rw [hn] at hno
    obtain ⟨hb1, he, hL1⟩ := hno
    have he2 : e = .returned (.agg #[.string (bstr (h.name)), .int .i64 2, .int .i64 (st.at_ : Nat), .int .i64 0, .int .i64 0, .string { data := #[] }, .slice none 0 0]) := he
    subst he2
    have hat : st1.at_ = st.at_ := nod_at hn
    have hbs := BxS.start (m := none) (nm := h.name) (kd := 2) HL.out HW0.out hb1 hL1 (fun x e => by cases e)
    have hbx : RowAt (w1.alloc (.cells #[.string { data := #[] }, .int .i64 0, .int .i64 0, .int .i64 0, .int .i64 0, .string { data := #[] }, .slice none 0 0] 28)) w1.heap.size 0 28 [.string { data := #[] }, .int .i64 0, .int .i64 0, .int .i64 0, .int .i64 0, .string { data := #[] }, .slice none 0 0] := RowAt.new w1 28 #[.string { data := #[] }, .int .i64 0, .int .i64 0, .int .i64 0, .int .i64 0, .string { data := #[] }, .slice none 0 0]
    have y0 := hbx.cell0 0 (by simp); have z0 := hbx.frozen0 0 (by simp)
    have y1 := hbx.cell0 1 (by simp); have z1 := hbx.frozen0 1 (by simp)
    have y2 := hbx.cell0 2 (by simp); have z2 := hbx.frozen0 2 (by simp)
    have y3 := hbx.cell0 3 (by simp); have z3 := hbx.frozen0 3 (by simp)
    have y4 := hbx.cell0 4 (by simp); have z4 := hbx.frozen0 4 (by simp)
    have y5 := hbx.cell0 5 (by simp); have z5 := hbx.frozen0 5 (by simp)
    have y6 := hbx.cell0 6 (by simp); have z6 := hbx.frozen0 6 (by simp)
    simp only [List.getElem_cons_zero, List.getElem_cons_succ] at y0 y1 y2 y3 y4 y5 y6
    have hg0 : g < W0.heap.size := HR0.out.lt
    have hr1 : RowAt w1 g o 70 (Tm.hdCells h (.pointer (some ⟨cb, 0, none⟩))) := HR0.out.of_heap (hb1.block g hg0 hg (fun e => by cases e))
    obtain ⟨V, hV⟩ : ∃ V, V = w1.alloc (.cells #[.string (bstr (h.name)), .int .i64 2, .int .i64 (st.at_ : Nat), .int .i64 0, .int .i64 0, .string { data := #[] }, .slice none 0 0] 28) := ⟨_, rfl⟩
    have hr2 : RowAt V g o 70 (Tm.hdCells h (.pointer (some ⟨cb, 0, none⟩))) := by rw [hV]; exact hr1.alloc _
    have hbs2 : BxS w V b w1.heap.size none F s st1 (ndCells (h.name) 2 st.at_ 0 0 [] (.slice none 0 0)) := by rw [hV]; exact hbs
    have hgn : g ≠ w1.heap.size := by have := hr1.lt; omega
    have HR2 := Lib.hid hr2
    have HBS := Lib.hid hbs2
    have HV := Lib.hid hV
    have k8 := hr2.cell 8 (by simp [Tm.hdCells_len]); have k0 := hr2.cell 0 (by simp [Tm.hdCells_len])
    simp only [Tm.hdCells, hk, Tm.kindN, List.getElem_cons_zero, List.getElem_cons_succ, Nat.add_zero] at k8 k0
    have hUV : Below U.heap.size U V := But.below hU hbs2.but hU.size hbU (fun x e => by cases e)
    have hNV : NmM V m n N := hN.keep (hbs2.but.block m hN.lt hm (fun e => by cases e))
    obtain ⟨kn, hNA⟩ := hNV.at_
    have HNUM := Lib.hid (number_any V rb cb kn c _ N hNA (isX_up hx hUV) hf)
    have HRG := Lib.hid (fun v => Ex.ev_range hNA.rng c hf v)
    rw [hV] at k8 k0
    clear hb1 hL1 he hbx hr1 hr2 hbs hbs2 hV hNA hNV hUV
    go_wp2_with fail
    rw [← HV.out]
    refine HNUM.out.mono ?_
    unfold NumOut
    rintro e w2 ⟨hb2, hv⟩
    clear y0 y1 y2 y3 y4 y5 y6 z0 z1 z2 z3 z4 z5 z6 k8 k0
    have hs2 := HBS.out.up hb2
    have HS2 := Lib.hid hs2
    cases hev : Ex.ev N c with
    | none =>
      rw [hev] at hv
      obtain ⟨t, v, he⟩ := hv
      unfold thrownL at he
      subst he
      have ho : oneH S s N h st = none := by unfold oneH; rw [hn, hk, hc]; simp only [Option.bind_some, hev]; rfl
      rw [ho]
      clear hb2 hs2 ho hn hev
      go_wp2_with fail
      exact ⟨rfl, HS2.out.but, t, v, rfl⟩
    | some v =>
      rw [hev] at hv
      have hv2 : e = .returned (.int .i64 v) := hv
      subst hv2
      obtain ⟨g1, g2⟩ := HRG.out v hev
      have HTK := Lib.hid (ltake_any b F s st1 v _ hs2.lr hs g1 g2)
      clear hb2 hs2 g1 g2
      go_wp2_with fail
      refine HTK.out.mono ?_
      unfold TakOut
      rintro e w3 ⟨hg3, ht⟩
      have hb3 : But w2 w3 b none := But.of_grown hg3
      have HB3 := Lib.hid hb3
      cases htk : tak s v st1 with
      | none =>
        rw [htk] at ht
        obtain ⟨t, v, he⟩ := ht
        unfold thrownL at he
        subst he
        have ho : oneH S s N h st = none := by unfold oneH; rw [hn, hk, hc]; simp only [Option.bind_some, hev, htk]; rfl
        rw [ho]
        clear hg3 hb3 ho hn htk hev
        go_wp2_with fail
        exact ⟨rfl, HS2.out.but.trans HB3.out, t, v, rfl⟩
      | some p =>
        obtain ⟨u, st2⟩ := p
        rw [htk] at ht
        obtain ⟨rfl, hl2⟩ := ht
        have ho : oneH S s N h st = some (⟨h.name, 2, st.at_, st2.at_ - st.at_, 0, u, .nil⟩, st2) := by unfold oneH; rw [hn, hk, hc]; simp only [Option.bind_some, hev, htk]; rfl
        have HO := Lib.hid ho
        have htl : st1.at_ ≤ st2.at_ ∧ st2.at_ ≤ s.length := by
          obtain ⟨h1, h2, h3⟩ := tak_ok htk HBS.out.lr.len
          exact ⟨h1.le, h1.len⟩
        have HNX := Lib.hid (show st.n < st2.n by have h1 := nod_n hn; have h2 := tak_n htk; omega)
        obtain ⟨hat1, hat2⟩ := htl
        have hs3 := HS2.out.move hb3 hl2
        have HS3 := Lib.hid hs3
        have d5 := (hs3.cell 5 (by simp [ndCells])).1; have e5 := (hs3.cell 5 (by simp [ndCells])).2
        simp only [ndCells, List.getElem_cons_zero, List.getElem_cons_succ] at d5
        have hs4 := hs3.set 5 (by simp [ndCells]) (.string (bstr u))
        simp only [ndCells, List.set_cons_zero, List.set_cons_succ] at hs4
        have HS4 := Lib.hid hs4
        clear hg3 hb3 hl2 hs3 hs4 ho
        go_wp2_with fail
        obtain ⟨W, hW⟩ : ∃ W, W = w3.setCell ⟨w1.heap.size, 5, none⟩ (.string (bstr u)) := ⟨_, rfl⟩
        have hs5 : BxS w W b w1.heap.size none F s st2 [.string (bstr (h.name)), .int .i64 ((2 : Nat) : Int), .int .i64 (st.at_ : Nat), .int .i64 ((0 : Nat) : Int), .int .i64 (0), .string (bstr (u)), .slice none 0 0] := by rw [hW]; exact HS4.out
        rw [← hW]
        have q2 := (hs5.cell 2 (by simp)).1
        have q3 := (hs5.cell 3 (by simp)).1; have u3 := (hs5.cell 3 (by simp)).2
        have qr := hs5.lr.row.cell0 2 (by simp)
        simp only [List.getElem_cons_zero, List.getElem_cons_succ] at q2 q3 qr
        have hsz : (st2.at_ : Int) - (st.at_ : Int) = ((st2.at_ - st.at_ : Nat) : Int) := by omega
        have wq : wrap64 ((st2.at_ : Int) - (st.at_ : Int)) = (st2.at_ : Int) - (st.at_ : Int) := IntWalk.wrap64_in _ ⟨by omega, by omega⟩
        have HSZ := Lib.hid hsz
        have HS5 := Lib.hid hs5
        clear hsz hs5 hW
        go_still_tail 8, (by kernel_rfl)
        change wpList _ _ _ _ _ W.drew
        obtain ⟨X, hX⟩ : ∃ X, X = W.drew := ⟨_, rfl⟩
        rw [← hX]
        have hs6 := HS5.out.drewN 1
        rw [show W.drewN 1 = X from hX.symm] at hs6
        have y3 := (hs6.cell 3 (by simp)).1; have u3 := (hs6.cell 3 (by simp)).2
        simp only [List.getElem_cons_zero, List.getElem_cons_succ] at y3
        have hsX := hs6.set 3 (by simp) (.int .i64 ((st2.at_ : Int) - (st.at_ : Int)))
        simp only [List.set_cons_zero, List.set_cons_succ] at hsX
        have HSX := Lib.hid hsX
        have HXW := Lib.hid (show ∀ k : Nat, X.heap[k]? = W.heap[k]? from fun k => by rw [hX]; rfl)
        clear hX hs6 q2 q3 qr
        have r0 := (hsX.cell 0 (by simp)).1; have r1 := (hsX.cell 1 (by simp)).1; have r2 := (hsX.cell 2 (by simp)).1; have r3 := (hsX.cell 3 (by simp)).1; have r4 := (hsX.cell 4 (by simp)).1; have r5 := (hsX.cell 5 (by simp)).1; have r6 := (hsX.cell 6 (by simp)).1
        simp only [List.getElem_cons_zero, List.getElem_cons_succ] at r0 r1 r2 r3 r4 r5 r6
        have x0 := hsX.res.cell0 0 (by simp); have v0 := hsX.res.frozen0 0 (by simp)
        have x1 := hsX.res.cell0 1 (by simp); have v1 := hsX.res.frozen0 1 (by simp)
        have x2 := hsX.res.cell0 2 (by simp); have v2 := hsX.res.frozen0 2 (by simp)
        have x3 := hsX.res.cell0 3 (by simp); have v3 := hsX.res.frozen0 3 (by simp)
        have x4 := hsX.res.cell0 4 (by simp); have v4 := hsX.res.frozen0 4 (by simp)
        have x5 := hsX.res.cell0 5 (by simp); have v5 := hsX.res.frozen0 5 (by simp)
        have x6 := hsX.res.cell0 6 (by simp); have v6 := hsX.res.frozen0 6 (by simp)
        simp only [List.getElem_cons_zero, List.getElem_cons_succ] at x0 x1 x2 x3 x4 x5 x6
        clear hsX
        go_wp2_with fail
        clear r0 r1 r2 r3 r4 r5 r6
        have p0 := HSX.out.res.set0 0 (by simp) (.string (bstr (h.name)))
        have r0 := p0.cell0 0 (by simp)
        have p1 := p0.set0 1 (by simp) (.int .i64 2)
        have r1 := p1.cell0 1 (by simp)
        have p2 := p1.set0 2 (by simp) (.int .i64 (st.at_ : Nat))
        have r2 := p2.cell0 2 (by simp)
        have p3 := p2.set0 3 (by simp) (.int .i64 ((st2.at_ : Int) - (st.at_ : Int)))
        have r3 := p3.cell0 3 (by simp)
        have p4 := p3.set0 4 (by simp) (.int .i64 (0))
        have r4 := p4.cell0 4 (by simp)
        have p5 := p4.set0 5 (by simp) (.string (bstr (u)))
        have r5 := p5.cell0 5 (by simp)
        have p6 := p5.set0 6 (by simp) (.slice none 0 0)
        have r6 := p6.cell0 6 (by simp)
        simp only [List.set_cons_zero, List.set_cons_succ, List.getElem_cons_zero, List.getElem_cons_succ] at r0 r1 r2 r3 r4 r5 r6
        have hfin := HSX.out.result (.string (bstr (h.name))) (.int .i64 2) (.int .i64 (st.at_ : Nat)) (.int .i64 ((st2.at_ : Int) - (st.at_ : Int))) (.int .i64 (0)) (.string (bstr (u))) (.slice none 0 0)
        clear p0 p1 p2 p3 p4 p5 p6
        refine bodyPost_ret (v := .agg #[.string (bstr (h.name)), .int .i64 2, .int .i64 (st.at_ : Nat), .int .i64 ((st2.at_ : Int) - (st.at_ : Int)), .int .i64 (0), .string (bstr (u)), .slice none 0 0]) (by simp [results, Tryz.results30, go_sem, r0, r1, r2, r3, r4, r5, r6]; first | done | rfl) rfl ?_
        refine ⟨hfin.1, ?_⟩
        rw [HO.out]
        refine ⟨⟨_, [], rfl, ?_, List.nodup_nil⟩, hfin.2.1, show st.at_ ≤ st2.at_ by omega, HNX.out⟩
        rw [HSZ.out]
        exact NdV.leaf _ _ _ _ _ _ _ _
end Go.Proofs.YtlomecfhobehnaaGreatDoor
end
section
/- A map of the call's own, as a function from keys to values as they stand in memory. No program in sight. -/
namespace Go.Proofs.YtlomecfhobehnaaGreatDoor
open Go Go.RowKit Go.Maps Go.WideElems Go.ChangeMaps Go.WideMaps
set_option linter.unusedVariables false
set_option linter.unusedSimpArgs false
/-- an element reads as itself -/
def valR (v : Value) : Option (DataW Value × List MemPlace) := some (.held v, [])
def updL (F : Lit → Option Value) (c : Lit) (v : Value) : Lit → Option Value := fun x => if x.sameKey c then some v else F x
def delL (F : Lit → Option Value) (c : Lit) : Lit → Option Value := fun x => if x.sameKey c then none else F x
theorem updL_same (F : Lit → Option Value) {c : Lit} (hc : WideAt.IsKeyLit c) (v : Value) : updL F c v c = some v := if_pos (WideAt.sameKey_self hc)
theorem updL_other (F : Lit → Option Value) {c x : Lit} (v : Value) (h : x ≠ c) : updL F c v x = F x := by unfold updL; rw [sameKey_ne h, if_neg (by decide)]
theorem delL_same (F : Lit → Option Value) {c : Lit} (hc : WideAt.IsKeyLit c) : delL F c c = none := if_pos (WideAt.sameKey_self hc)
theorem delL_other (F : Lit → Option Value) {c x : Lit} (h : x ≠ c) : delL F c x = F x := by unfold delL; rw [sameKey_ne h, if_neg (by decide)]
def atL (o : Option Value) (z : DataW Value) : DataW Value := match o with
  | none => z
  | some v => .held v
/-- block b is a map of the call's own, of at most n entries: at the key c the value F c stands -/
def MapG (P : Program) (k : TypeId) (w : World) (b n : Nat) (F : Lit → Option Value) : Prop :=
  ∃ D : DataW Value, w.ownsMap P k valR b n D ∧ IsMap D ∧ ∀ kl, WideAt.IsKeyLit kl → ∀ z, D.atKey kl z = atL (F kl) z
section
variable {P : Program} {t k e : TypeId} {w : World} {b n : Nat} {F : Lit → Option Value}
theorem MapG.made (w : World) : MapG P k (w.alloc (.map #[] 0)) w.heap.size 0 (fun _ => none) :=
  ⟨.map [], World.ownsMap_made _ _ _ _, isMap_empty, fun c _ z => rfl⟩
theorem MapG.keep {w' : World} (h : MapG P k w b n F) (hh : w'.heap[b]? = w.heap[b]?) : MapG P k w' b n F := by
  obtain ⟨D, ⟨es, clock, hb, h1⟩, h2⟩ := h
  exact ⟨D, ⟨es, clock, hh.trans hb, h1⟩, h2⟩
theorem MapG.congr {G : Lit → Option Value} (h : MapG P k w b n F) (hg : ∀ c, WideAt.IsKeyLit c → F c = G c) : MapG P k w b n G := by
  obtain ⟨D, h1, h2, h3⟩ := h
  exact ⟨D, h1, h2, fun c hc z => by rw [← hg c hc]; exact h3 c hc z⟩
theorem MapG.mono (h : MapG P k w b n F) {m : Nat} (hm : n ≤ m) : MapG P k w b m F := by
  obtain ⟨D, h1, h2⟩ := h
  exact ⟨D, h1.mono hm, h2⟩
theorem MapG.lt (h : MapG P k w b n F) : b < w.heap.size := by obtain ⟨D, h1, _⟩ := h; exact h1.lt
theorem MapG.block (h : MapG P k w b n F) : ∃ es clock, w.heap[b]? = some (.map es clock) := by
  obtain ⟨D, ⟨es, clock, hb, _⟩, _⟩ := h
  exact ⟨es, clock, hb⟩
theorem MapG.has {D : DataW Value} (h3 : ∀ kl, WideAt.IsKeyLit kl → ∀ z, D.atKey kl z = atL (F kl) z) {kl : Lit} (hl : WideAt.IsKeyLit kl) : Maps.has D kl = (F kl).isSome := by
  cases hF : F kl with
  | none => exact has_false_of_atKey fun z => by rw [h3 kl hl z, hF]; rfl
  | some v => exact has_true_of_atKey (y := .held v) fun z => by rw [h3 kl hl z, hF]; rfl
theorem MapG.look (h : MapG P k w b n F) (K : Keyed P k) (ht : P.underlying t = some (.map k e)) {z : Value} (hz : (zeroValue e).run P w = .ok z w) {key : Value} {kl : Lit} (hkey : keyOf P k key = some kl) (hl : WideAt.IsKeyLit kl) :
    (Instr.lookup t (.map (some b)) key false).run P w = .ok ((F kl).getD z) w := by
  obtain ⟨D, h1, h2, h3⟩ := h
  obtain ⟨v, ps, hrun, hv⟩ := h1.lookup K ht hz (show valR z = some (.held z, []) from rfl) hkey
  rw [h3 kl hl] at hv
  rw [hrun]
  cases hF : F kl with
  | none =>
    rw [hF] at hv
    simp only [valR, atL, Option.some.injEq, Prod.mk.injEq, DataW.held.injEq] at hv
    rw [hv.1]; rfl
  | some u =>
    rw [hF] at hv
    simp only [valR, atL, Option.some.injEq, Prod.mk.injEq, DataW.held.injEq] at hv
    rw [hv.1]; rfl
theorem MapG.look_ok (h : MapG P k w b n F) (K : Keyed P k) (ht : P.underlying t = some (.map k e)) {z : Value} (hz : (zeroValue e).run P w = .ok z w) {key : Value} {kl : Lit} (hkey : keyOf P k key = some kl) (hl : WideAt.IsKeyLit kl) :
    (Instr.lookup t (.map (some b)) key true).run P w = .ok (.tuple #[(F kl).getD z, .bool (F kl).isSome]) w := by
  obtain ⟨D, h1, h2, h3⟩ := h
  obtain ⟨v, ps, hrun, hv⟩ := h1.look_ok K ht hz (show valR z = some (.held z, []) from rfl) hkey
  rw [h3 kl hl] at hv
  rw [hrun, MapG.has h3 hl]
  cases hF : F kl with
  | none =>
    rw [hF] at hv
    simp only [valR, atL, Option.some.injEq, Prod.mk.injEq, DataW.held.injEq] at hv
    rw [hv.1]; rfl
  | some u =>
    rw [hF] at hv
    simp only [valR, atL, Option.some.injEq, Prod.mk.injEq, DataW.held.injEq] at hv
    rw [hv.1]; rfl
theorem MapG.store (h : MapG P k w b n F) (K : Keyed P k) (ht : P.underlying t = some (.map k e)) (hn : n < maxLen) {key val : Value} {kl : Lit} (hkey : keyOf P k key = some kl) (hl : WideAt.IsKeyLit kl) :
    ∃ w', (Instr.mapUpdate t (.map (some b)) key val).run P w = .ok () w' ∧ MapG P k w' b (n + 1) (updL F kl val) ∧ w.grownBy w' (some b) ∧ w'.heap.size = w.heap.size := by
  obtain ⟨D, h1, h2, h3⟩ := h
  obtain ⟨w', hrun, ho, hg⟩ := h1.store K ht hn hkey (show valR val = some (.held val, []) from rfl)
  have hsz : w'.heap.size = w.heap.size := by
    obtain ⟨es, clock, es', clock', hb, rfl⟩ := hg
    simp [ChangeMaps.setBlock]
  refine ⟨w', hrun, ⟨_, ho, h2.put _ _, fun x hx z => ?_⟩, hg.grown, hsz⟩
  by_cases hxc : x = kl
  · subst hxc
    rw [atKey_put_same h2 hx, updL_same F hx]
    rfl
  · rw [atKey_put_other hxc, updL_other F _ hxc]
    exact h3 x hx z
theorem MapG.drop (h : MapG P k w b n F) (K : Keyed P k) (ht : P.underlying t = some (.map k e)) {key : Value} {kl : Lit} (hkey : keyOf P k key = some kl) (ty : TypeId) :
    ∃ w', (Builtin.delete_ #[t, k] ty #[.map (some b), key]).run P w = .ok (.tuple #[]) w' ∧ MapG P k w' b n (delL F kl) ∧ w.grownBy w' (some b) ∧ w'.heap.size = w.heap.size := by
  obtain ⟨D, h1, h2, h3⟩ := h
  obtain ⟨w', hrun, ho, hg⟩ := h1.drop K ht hkey ty
  have hsz : w'.heap.size = w.heap.size := by
    obtain ⟨es, clock, es', clock', hb, rfl⟩ := hg
    simp [ChangeMaps.setBlock]
  refine ⟨w', hrun, ⟨_, ho, ?_, fun x hx z => ?_⟩, hg.grown, hsz⟩
  · obtain ⟨es, rfl⟩ := h2
    exact ⟨_, rfl⟩
  · by_cases hxc : x = kl
    · subst hxc
      rw [atKey_del_same, delL_same F hx]
      rfl
    · rw [atKey_del_other hxc, delL_other F hxc]
      exact h3 x hx z
theorem MapG.len (h : MapG P k w b n F) (ht : P.underlying t = some (.map k e)) (ty : TypeId) : ∃ m : Nat, m ≤ n ∧ (Builtin.len_ #[t] ty #[.map (some b)]).run P w = .ok (.int .i64 (m : Int)) w := by
  obtain ⟨D, h1, h2, h3⟩ := h
  exact ⟨_, h1.size_le, h1.len ht ty⟩
end
/-- a store, at the operation -/
theorem wpList_storeG {P : Program} (w : World) {ops : Array Oper} {rest : List Oper} {o : Oper} {a : Act} {Q : Exit → Act → World → Prop}
    (hg : o.guard = none) (m x v : Operand) (t : TypeId) (hop : o.op = Op.mapUpdate t m x v) (k e : TypeId) (ht : P.underlying t = some (.map k e)) (K : Keyed P k)
    (b n : Nat) (F : Lit → Option Value) (hm : a.eval m = .map (some b)) (h : MapG P k w b n F) (hn : n < maxLen) (key val : Value) (kl : Lit) (hkey : keyOf P k key = some kl) (hl : WideAt.IsKeyLit kl) (hx : a.eval x = key) (hv : a.eval v = val)
    (hK : ∀ w', MapG P k w' b (n + 1) (updL F kl val) → w.grownBy w' (some b) → w'.heap.size = w.heap.size → wpList P ops Q rest (a.put o.dst undef) w') :
    wpList P ops Q (o :: rest) a w := by
  refine wpList_plain hg fun K' hK' => ?_
  obtain ⟨w', hrun, r1, r2, r3⟩ := h.store (val := val) K ht hn hkey hl
  unfold Oper.wp
  simp [execOp, hop, hm, hx, hv, hrun, Result.andThen]
  exact hK' _ _ (hK w' r1 r2 r3)
theorem strL_key (s : List UInt8) : WideAt.IsKeyLit (.string s) := by unfold WideAt.IsKeyLit; trivial
theorem strL_of {P : Program} {k : TypeId} (hk : P.underlying k = some .string) (s : List UInt8) (hs : s.length ≤ 200000000000000) : keyOf P k (.string (bstr s)) = some (.string s) :=
  WideMaps.keyOf_string_mk hk (by rw [bstr_size]; show s.length ≤ 9223372036854775807; omega)
end Go.Proofs.YtlomecfhobehnaaGreatDoor
end
section
/- How tmpl.item and tmpl.block end; Take as a choice. -/
namespace Go.Proofs.YtlomecfhobehnaaGreatDoor
open Go.RowKit
set_option linter.unusedVariables false
set_option linter.unusedSimpArgs false
open Rd
/-- how tmpl.item ends -/
def ItemOut (w0 : World) (rb E d : Nat) (T : List Rd.Tok) (e : Ending) (w' : World) : Prop :=
  (∃ I R cs, Tm.ItmP E d T I R ∧ e = .returned (.agg cs.toArray) ∧ Tm.Enc w' rb (fun b => w0.heap.size ≤ b) I cs ∧ Rdr w' rb R E ∧ w0.grownBy w' (some rb)) ∨ ((∀ I R, ¬ Tm.ItmP E d T I R) ∧ Bad w0 rb e w')
/-- how tmpl.block ends -/
def BlockOut (w0 : World) (rb E d : Nat) (T : List Rd.Tok) (e : Ending) (w' : World) : Prop :=
  (∃ l R ga cap bs, Tm.BlkP E d T l R ∧ e = .returned (.slice ga (Tm.Its.len l) cap) ∧ Owns w' w0.heap.size 70 13 ga (Tm.Its.len l) cap bs ∧ Tm.Enc w' rb (fun b => w0.heap.size ≤ b) l bs ∧ Rdr w' rb R E ∧ w0.grownBy w' (some rb)) ∨ ((∀ l R, ¬ Tm.BlkP E d T l R) ∧ Bad w0 rb e w')
def BlockC (rb E d : Nat) (T : List Rd.Tok) : Prop := ∀ w, Env w rb → Rdr w rb T E → Calls Tryz.prog 55 #[.pointer (some ⟨rb, 0, none⟩), .int .i64 (d : Nat)] w (BlockOut w rb E d T)
def ItemC (rb E d : Nat) (T : List Rd.Tok) : Prop := ∀ w, Env w rb → Rdr w rb T E → Calls Tryz.prog 89 #[.pointer (some ⟨rb, 0, none⟩), .int .i64 (d : Nat)] w (ItemOut w rb E d T)
/-- a token that may come -/
theorem take_any (w : World) (rb E : Nat) (T : List Rd.Tok) (m : Tm.Wd) (hm : m ≠ []) (hr : Rdr w rb T E) :
    Calls Tryz.prog 85 #[.pointer (some ⟨rb, 0, none⟩), .string (bstr m)] w fun e w' => (∃ t R, T = t :: R ∧ t.1 = m ∧ e = .returned (.bool true) ∧ Rdr w' rb R E ∧ w.grownBy w' (some rb)) ∨ (Tm.textOf T ≠ m ∧ e = .returned (.bool false) ∧ w' = w) := by
  have hto : textOf T = Tm.textOf T := by cases T <;> rfl
  by_cases h : Tm.textOf T = m
  · cases T with
    | nil => exact absurd h.symm hm
    | cons t R =>
      have h2 : t.1 = m := h
      subst h2
      exact (Take_yes rb t R E w hr hm).mono fun e w' h => .inl ⟨t, R, rfl, rfl, h⟩
  · exact (Take_no rb T E m w hr hm (by rw [hto]; exact h)).mono fun e w' g => .inr ⟨h, g⟩
end Go.Proofs.YtlomecfhobehnaaGreatDoor
end
