/- The law PieceParts. -/
import Derived.Test.YtenhblpegobbjaaPieceJ
import Derived.Test.YtenhblpegobbjaaPieceK
import Derived.Test.YtenhblpegobbjaaRdI
import Derived.Deep.DeepCutAuto
import Derived.Deep.CutBlock
import Derived.Deep.RegionHeld3
namespace Go.Proofs.Ytenhblpegobbjaa
open Go.RowKit Go.Shelf
open Piece
set_option linter.unusedVariables false
set_option linter.unusedSimpArgs false
attribute [local go_sem] Oper.semAt_some
theorem boxed_own {β : Type} (b : Nat) (t : TypeId) (f : β → Value) : Own (fun s W => Boxed W b t (f s)) := by
  rintro s X Y row hv hg hrow
  refine hv.kept hg (fun e' => ?_)
  obtain ⟨o, ho, hc⟩ := hrow b e'.symm
  rw [show X.heap[b]? = _ from hv] at ho; cases ho; cases hc
/-- the boxes of the law: the number to stop at, the answer, the text -/
structure PP (w : World) (g : Nat) (T : Tr) (q : Option Addr) (stop : Int) (wr : World) : Prop where
  tx : TxAt wr g T q
  b9 : Boxed wr w.heap.size 3 (.int .i64 stop)
  b10 : Boxed wr (w.heap.size + 1) 4 (.bool false)
  bel : Below w.heap.size w wr
  hg : w.heap.size + 1 < g
theorem PP.below {w : World} {g : Nat} {T : Tr} {q : Option Addr} {stop : Int} {wr w2 : World} (h : PP w g T q stop wr) (hb : Below wr.heap.size wr w2) : PP w g T q stop w2 := by
  have hl := h.tx.lt
  have hg := h.hg
  exact ⟨h.tx.below hb, box_below h.b9 hb (by omega), box_below h.b10 hb (by omega), h.bel.trans (hb.mono h.bel.size), h.hg⟩
theorem PP.put {w : World} {g : Nat} {T T2 : Tr} {q q2 : Option Addr} {stop : Int} {wr : World} (h : PP w g T q stop wr) (ht : IsTr wr.heap.size wr q2 T2) : PP w g T2 q2 stop (wr.setCell ⟨g, 0, none⟩ (.pointer q2)) := by
  have hg := h.hg
  exact ⟨⟨h.tx.box.set _, ht.outBox h.tx.box _⟩, h.b9.other (by omega) _, h.b10.other (by omega) _, h.bel.setCell (p := ⟨g, 0, none⟩) (by simp; omega) _, h.hg⟩
theorem PP.stop {w : World} {g : Nat} {T : Tr} {q : Option Addr} {stop : Int} {wr : World} (h : PP w g T q stop wr) (st : Int) : PP w g T q st (wr.setCell ⟨w.heap.size, 0, none⟩ (.int .i64 st)) := by
  have hg := h.hg
  have hl := h.tx.lt
  exact ⟨⟨h.tx.box.other (by omega) _, h.tx.tr.outBox h.b9 _⟩, h.b9.set _, h.b10.other (by omega) _, h.bel.setCell (p := ⟨w.heap.size, 0, none⟩) (Nat.le_refl _) _, h.hg⟩
/-- the second way through: the box that counts, and what lies below it -/
structure QJ (W2 : World) (D K : Nat) (v : Nat) (X : World) : Prop where
  bk : Boxed X K 3 (.int .i64 (v : Nat))
  bel : Below K W2 X
  d : X.heap[D]? = some (.deferred (some []))
theorem QJ.own {W2 : World} {D K v : Nat} {X Y : World} {row : Option Nat} (h : QJ W2 D K v X) (hK : K < W2.heap.size ∧ D < W2.heap.size) (hg : X.grownBy Y row) (hr : ∀ r, row = some r → W2.heap.size ≤ r ∧ ∃ o : Obj, X.heap[r]? = some o ∧ o.isCells = false) : QJ W2 D K v Y := by
  refine ⟨boxed_own K 3 (fun n : Nat => .int .i64 (n : Nat)) v X Y row h.bk hg (fun r e => (hr r e).2), h.bel.grown hg (Nat.le_trans (Nat.le_of_lt hK.1) h.bel.size) (fun k e => Nat.le_trans (Nat.le_of_lt hK.1) (hr k e).1), ?_⟩
  exact (hg.block D (Array.getElem?_eq_some_iff.1 h.d).1 (fun e => by have := (hr D e.symm).1; omega)).trans h.d
theorem QJ.set {W2 : World} {D K v : Nat} {X : World} (h : QJ W2 D K v X) (hD : K ≠ D) (n : Nat) : QJ W2 D K n (X.setCell ⟨K, 0, none⟩ (.int .i64 (n : Nat))) := by
  refine ⟨h.bk.set _, h.bel.setCell (p := ⟨K, 0, none⟩) (Nat.le_refl _) _, ?_⟩
  simp only [World.setCell, Array.getElem?_modify]
  rw [if_neg hD]
  exact h.d
/-- a box's truth value, whatever it is -/
def cellB (b : Nat) (w : World) : Bool := match w.cell? ⟨b, 0, none⟩ with
  | some (.bool c) => c
  | _ => false
theorem cellB_of {b : Nat} {w : World} {c : Bool} (h : w.cell? ⟨b, 0, none⟩ = some (.bool c)) : cellB b w = c := by simp [cellB, h]
/-- the tail: all boxes -/
structure TBV (w : World) (S D D2 g : Nat) (T : Tr) (q : Option Addr) (st : Nat) (V : ByteArray) (X : World) : Prop where
  bs : Boxed X S 9 (.string V)
  bk : Boxed X (S + 1) 3 (.int .i64 (st : Nat))
  b9 : Boxed X w.heap.size 3 (.int .i64 (st : Nat))
  bg : Boxed X g 26 (.pointer q)
  b10 : ∃ c, Boxed X (w.heap.size + 1) 4 (.bool c)
  tr : IsTr X.heap.size X q T
  bel : Below w.heap.size w X
  d1 : X.heap[D]? = some (.deferred (some []))
  d2 : X.heap[D2]? = some (.deferred (some []))
  n1 : w.heap.size + 1 < g
  n2 : g < S
  n3 : S + 1 < D
  n4 : D < D2
theorem TBV.mk' {w W2 : World} {S D D2 g : Nat} {T : Tr} {q : Option Addr} {st : Nat} {V : ByteArray} {X : World} (hq : QJ W2 D (S + 1) st X) (h2 : g < S) (h3 : S + 1 < D) (h4 : D < D2) (h5 : S + 1 ≤ W2.heap.size) (hP : PP w g T q (st : Nat) W2) (hS : Boxed W2 S 9 (.string V))
    (ht : IsTr S W2 q T) (hK : X.heap[D2]? = some (.deferred (some []))) : TBV w S D D2 g T q st V X := by
  have h1 := hP.hg
  have hx := hq.bel.size
  exact ⟨box_below hS hq.bel (by omega), hq.bk, box_below hP.b9 hq.bel (by omega), box_below hP.tx.box hq.bel (by omega), ⟨false, box_below hP.b10 hq.bel (by omega)⟩, (ht.below (hq.bel.mono (by omega))).up (by omega), hP.bel.trans (hq.bel.mono (by omega)), hq.d, hK, h1, h2, h3, h4⟩
theorem TBV.below {w : World} {S D D2 g : Nat} {T : Tr} {q : Option Addr} {st : Nat} {V : ByteArray} {X Y : World} (h : TBV w S D D2 g T q st V X) (hb : Below X.heap.size X Y) : TBV w S D D2 g T q st V Y := by
  obtain ⟨c, hc⟩ := h.b10
  have l2 := (Array.getElem?_eq_some_iff.1 h.d2).1
  have n1 := h.n1; have n2 := h.n2; have n3 := h.n3; have n4 := h.n4
  exact ⟨box_below h.bs hb (by omega), box_below h.bk hb (by omega), box_below h.b9 hb (by omega), box_below h.bg hb (by omega), ⟨c, box_below hc hb (by omega)⟩, h.tr.keep hb, h.bel.trans (hb.mono (by omega)),
    (hb.block D (by omega)).trans h.d1, (hb.block D2 (by omega)).trans h.d2, n1, n2, n3, n4⟩
theorem TBV.set {w : World} {S D D2 g : Nat} {T : Tr} {q : Option Addr} {st : Nat} {V : ByteArray} {X : World} (h : TBV w S D D2 g T q st V X) (b : Bool) : TBV w S D D2 g T q st V (X.setCell ⟨w.heap.size + 1, 0, none⟩ (.bool b)) := by
  obtain ⟨c, hc⟩ := h.b10
  have n1 := h.n1; have n2 := h.n2; have n3 := h.n3; have n4 := h.n4
  refine ⟨h.bs.other (by omega) _, h.bk.other (by omega) _, h.b9.other (by omega) _, h.bg.other (by omega) _, ⟨b, hc.set _⟩, h.tr.outBox hc _, h.bel.setCell (p := ⟨w.heap.size + 1, 0, none⟩) (Nat.le_succ _) _, ?_, ?_, n1, n2, n3, n4⟩
  · simp only [World.setCell, Array.getElem?_modify]
    rw [if_neg (by omega)]
    exact h.d1
  · simp only [World.setCell, Array.getElem?_modify]
    rw [if_neg (by omega)]
    exact h.d2
theorem TBV.cells {w : World} {S D D2 g : Nat} {T : Tr} {q : Option Addr} {st : Nat} {V : ByteArray} {X : World} (h : TBV w S D D2 g T q st V X) :
    X.cell? ⟨S, 0, none⟩ = some (.string V) ∧ X.cell? ⟨S + 1, 0, none⟩ = some (.int .i64 (st : Nat)) ∧ X.cell? ⟨w.heap.size, 0, none⟩ = some (.int .i64 (st : Nat)) ∧ X.cell? ⟨g, 0, none⟩ = some (.pointer q) ∧
    X.cell? ⟨w.heap.size + 1, 0, none⟩ = some (.bool (cellB (w.heap.size + 1) X)) ∧ X.frozen? ⟨w.heap.size + 1, 0, none⟩ = false ∧ TBV w S D D2 g T q st V X := by
  obtain ⟨c, hc⟩ := h.b10
  exact ⟨h.bs.cell, h.bk.cell, h.b9.cell, h.bg.cell, by rw [cellB_of hc.cell]; exact hc.cell, hc.frozen, h⟩
theorem bcellP {W w1 : World} (hb : Below W.heap.size W w1) : (∀ b o, b < W.heap.size → w1.cell? ⟨b, o, none⟩ = W.cell? ⟨b, o, none⟩) ∧ (∀ b o, b < W.heap.size → w1.frozen? ⟨b, o, none⟩ = W.frozen? ⟨b, o, none⟩) :=
  ⟨fun b o h => hb.cell (p := ⟨b, o, none⟩) h, fun b o h => hb.frozen (p := ⟨b, o, none⟩) h⟩
/-- the text's box, as it was ahead of a region -/
def SX (wc : World) (g : Nat) (q : Option Addr) (w1 : World) : Prop := w1.cell? ⟨g, 0, none⟩ = some (.pointer q) ∧ Below wc.heap.size wc w1
theorem SX.keep {wc w1 w2 : World} {g : Nat} {q : Option Addr} (h : SX wc g q w1) (hg : g < wc.heap.size) (hb : Below w1.heap.size w1 w2) : SX wc g q w2 :=
  ⟨(hb.cell (p := ⟨g, 0, none⟩) (Nat.lt_of_lt_of_le hg h.2.size)).trans h.1, h.2.trans (hb.mono h.2.size)⟩
theorem SX.alloc {wc w1 : World} {g : Nat} {q : Option Addr} (h : SX wc g q w1) (hg : g < wc.heap.size) (o : Obj) : SX wc g q (w1.alloc o) := h.keep hg ((Below.refl _ _).alloc (Nat.le_refl _) o)
theorem SX.drew {wc w1 : World} {g : Nat} {q : Option Addr} (h : SX wc g q w1) (hg : g < wc.heap.size) : SX wc g q w1.drew := h.keep hg (Below.refl _ _).drew
theorem SX.set {wc w1 : World} {g : Nat} {q : Option Addr} (h : SX wc g q w1) (hg : g < wc.heap.size) (v : Value) : SX wc g q (w1.setCell ⟨wc.heap.size, 0, none⟩ v) := by
  have hb : Below wc.heap.size w1 (w1.setCell ⟨wc.heap.size, 0, none⟩ v) := (Below.refl _ _).setCell (p := ⟨wc.heap.size, 0, none⟩) (Nat.le_refl _) _
  exact ⟨(hb.cell (p := ⟨g, 0, none⟩) hg).trans h.1, h.2.trans hb⟩
/-- the new text's own box -/
structure EJ (w : World) (g : Nat) (T : Tr) (q : Option Addr) (stop : Int) (b : Nat) (q2 : Option Addr) (T2 : Tr) (wr : World) : Prop where
  c : wr.cell? ⟨b, 0, none⟩ = some (.pointer q2)
  t : IsTr wr.heap.size wr q2 T2
  p : PP w g T q stop wr
theorem EJ.late {w : World} {g : Nat} {T T2 : Tr} {q q2 : Option Addr} {stop : Int} {wc wX : World} (hP : PP w g T q stop wc) (hX : SX wc g q wX) (ht : IsTr wX.heap.size wX q2 T2) :
    EJ w g T q stop wX.heap.size q2 T2 (wX.alloc (.cells #[.pointer q2] 26)) := by
  have hb := (Below.refl wX.heap.size wX).alloc (Nat.le_refl _) (.cells #[.pointer q2] 26)
  exact ⟨(Boxed.new wX 26 (.pointer q2)).cell, ht.keep hb, (hP.below hX.2).below hb⟩
theorem EJ.early {w : World} {g : Nat} {T T2 : Tr} {q q2 : Option Addr} {stop : Int} {wc wX : World} (hP : PP w g T q stop wc) (hg : g < wc.heap.size) (hX : SX wc g q wX)
    (hb : Below (wc.alloc (.cells #[.pointer none] 26)).drew.heap.size (wc.alloc (.cells #[.pointer none] 26)).drew wX) (ht : IsTr wX.heap.size wX q2 T2) :
    EJ w g T q stop wc.heap.size q2 T2 (wX.setCell ⟨wc.heap.size, 0, none⟩ (.pointer q2)) := by
  have hn : Boxed (wc.alloc (.cells #[.pointer none] 26)).drew wc.heap.size 26 (.pointer none) := Boxed.new wc 26 (.pointer none)
  have hx : Boxed wX wc.heap.size 26 (.pointer none) := box_below hn hb (by show wc.heap.size < (wc.alloc _).heap.size; simp)
  exact ⟨(hx.set _).cell, ht.outBox hx _, hP.below (hX.set hg (.pointer q2)).2⟩
set_option maxRecDepth 100000 in
set_option maxHeartbeats 4000000 in
theorem PieceParts_in (s x : List UInt8) (A O : List Int) (aa ao : Option Addr) (na ca no co : Nat) (stop : Int) (w : World) (hs : s.length ≤ 200) (hx : x.length ≤ 40) (ha : RdI w aa A) (hal : A.length = na) (hna : na ≤ 60) (ho : RdI w ao O) (hol : O.length = no) (hno : no ≤ 140737488351232)
    (hst : -9223372036854775808 ≤ stop ∧ stop ≤ 9223372036854775807) (hA : ∀ x ∈ A, -9223372036854775808 ≤ x ∧ x ≤ 9223372036854775807) (hO : ∀ x ∈ O, -9223372036854775808 ≤ x ∧ x ≤ 9223372036854775807) :
    Calls Try.prog 4 #[.string (bstr s), .slice aa na ca, .slice ao no co, .string (bstr x), .int .i64 stop] w fun e w' => e = .returned (.bool true) ∧ Below w.heap.size w w' := by
  have q1 : decide ((200 : Int) < (s.length : Int)) = false := decide_eq_false (by omega)
  have q2 : decide ((60 : Int) < (na : Int)) = false := decide_eq_false (by omega)
  have q3 : decide ((40 : Int) < (x.length : Int)) = false := decide_eq_false (by omega)
  have b1 := Boxed.new w 3 (.int .i64 stop)
  have b2 := Boxed.new (w.alloc (.cells #[.int .i64 stop] 3)) 4 (.bool false)
  have b1' := b1.alloc (.cells #[.bool false] 4)
  have hB0 : Below w.heap.size w ((w.alloc (.cells #[.int .i64 stop] 3)).alloc (.cells #[.bool false] 4)) := ((Below.refl _ w).alloc (Nat.le_refl _) _).alloc (by simp) _
  have hs0 : ((w.alloc (.cells #[.int .i64 stop] 3)).alloc (.cells #[.bool false] 4)).heap.size = w.heap.size + 2 := by simp
  rw [World.size_alloc] at b2
  clear b1
  generalize hw0 : (w.alloc (.cells #[.int .i64 stop] 3)).alloc (.cells #[.bool false] 4) = w0 at *
  have HW0 := Lib.hid hw0
  have HB0 := Lib.hid hB0
  have HA := Lib.hid ha; have HAL := Lib.hid hal; have HO := Lib.hid ho; have HOL := Lib.hid hol
  have HA2 := Lib.hid hA; have HO2 := Lib.hid hO
  clear hw0 hB0 ha ho hal hol hA hO
  refine (callsIn_wide (n := 9)).1 ?_
  refine callsIn_of_wp_marks Try.func4 rfl trivial ?_ rfl
  simp only [Try.ntmps4, List.size_toArray, List.length_cons, List.length_nil, Nat.reduceAdd, Nat.reduceSub, Array.replicate_succ, Array.replicate_zero, List.push_toArray, List.append_toArray, List.nil_append, List.cons_append]
  refine wpIn_wide.2 ?_
  go_wp2_with fail
  rw [HW0.out]
  refine (pieced_any _).mono ?_
  rintro e w1 ⟨rfl, hb1⟩
  go_wp2_with fail
  refine (Of_one s _ (by omega)).mono ?_
  rintro e w2 ⟨p, rfl, h2, hb2⟩
  have hb12 := hb1.trans (hb2.mono hb1.size)
  have hb3 := (Below.refl w2.heap.size w2).alloc (Nat.le_refl _) (.cells #[.pointer p] 26)
  have hz2 := hb12.size
  have hP : PP w w2.heap.size (Tr.one s) p stop (w2.alloc (.cells #[.pointer p] 26)) :=
    ⟨TxAt.new h2, (box_below b1' hb12 (by omega)).alloc _, (box_below b2 hb12 (by omega)).alloc _, (HB0.out.trans (hb12.mono HB0.out.size)).trans (hb3.mono (by omega)), by omega⟩
  have hsz3 : w0.heap.size ≤ (w2.alloc (.cells #[.pointer p] 26)).heap.size := by simp; omega
  have hcx := hP.tx.cell
  go_wp2_with fail
  generalize w2.heap.size = g at *
  generalize w2.alloc (.cells #[.pointer p] 26) = w3 at *
  have ht0 := Tr.one_text s
  have hf0 := Tr.one_full s
  have hbl0 := Tr.one_bal s
  have htl : (Tr.one s).text.length ≤ 200 := by rw [ht0]; exact hs
  generalize Tr.one s = T0 at *
  have HP := Lib.hid hP
  have HT0 := Lib.hid (And.intro hf0 hbl0)
  clear hP hb1 hb2 hb12 hb3 h2 b1' b2 hf0 hbl0 ht0 q1 q2 q3 hz2
  refine (Parts_any p T0 w3 HP.out.tx.tr HT0.out.1 (by omega)).mono ?_
  rintro e w4 ⟨rfl, hb4⟩
  have hP4 := HP.out.below hb4
  have HP4 := Lib.hid hP4
  clear HP hP4 hcx
  go_wp2_with fail
  have hcount : T0.count ≤ 2600 := by have := HT0.out.1.count_le; omega
  go_loopw [12, 14] (fun v12 v14 wr => ∃ (i : Nat) (T : Tr) (q : Option Addr), i ≤ na ∧ v14 = .int .i64 i ∧ v12 = .int .i64 (T.count : Nat) ∧ T.text.length ≤ 200 + 40 * i ∧ Hid (T.full ∧ T.bal) ∧ Hid (PP w g T q stop wr)) (fun _ v14 _ => na - (intOf v14).toNat)
  case atStart => exact ⟨0, T0, p, by omega, rfl, rfl, by omega, HT0, HP4⟩
  case round =>
    clear HP4 HT0 htl hcount
    obtain ⟨i, T, q, hi, rfl, rfl, htl, HTT, HP⟩ := hrel
    by_cases hlt : i < na
    · have hli : (i : Int) < (na : Int) := by omega
      have hcx := HP.out.tx.cell
      have hgl := HP.out.tx.lt
      have hlA : i < A.length := by rw [HAL.out]; exact hlt
      obtain ⟨xa, rfl, hxb, hxc⟩ := (HA.out.below HP.out.bel (Nat.le_refl _)) i hlA
      have hai : -9223372036854775808 ≤ A.getD i 0 ∧ A.getD i 0 ≤ 9223372036854775807 := by
        have e : A.getD i 0 = A[i] := by rw [List.getD_eq_getElem?_getD, List.getElem?_eq_getElem hlA]; rfl
        rw [e]; exact HA2.out _ (List.getElem_mem hlA)
      generalize A.getD i 0 = ai at *
      have hlen : ∀ w1, (w1.cell? ⟨g, 0, none⟩ = some (.pointer q) ∧ w1.cell? (xa.add i) = some (.int .i64 ai) ∧ Below wr.heap.size wr w1) → Calls Try.prog 19 #[.agg #[.pointer q]] w1 fun e w' => e = .returned (.int .i64 (T.text.length : Nat)) ∧ Below w1.heap.size w1 w' :=
        fun w1 h1 => Len_any q T _ w1 (HP.out.tx.tr.keep h1.2.2) (Nat.le_refl _)
      have hn26 : T.text.length ≤ 2600 := by omega
      have hwr : IntKind.i64.wrap ((T.text.length : Int) + 1) = ((T.text.length + 1 : Nat) : Int) := by rw [i64_in _ (by omega) (by omega)]; rfl
      have hpk := fun w1 => pick_at ai _ (T.text.length + 1) w1 hwr (by omega) (by omega)
      clear hwr
      have hpl := pickN_lt ai (T.text.length + 1) (by omega)
      have hkeep : ∀ {w1 w2 : World}, Below w1.heap.size w1 w2 → (w1.cell? ⟨g, 0, none⟩ = some (.pointer q) ∧ w1.cell? (xa.add i) = some (.int .i64 ai) ∧ Below wr.heap.size wr w1) → (w2.cell? ⟨g, 0, none⟩ = some (.pointer q) ∧ w2.cell? (xa.add i) = some (.int .i64 ai) ∧ Below wr.heap.size wr w2) :=
        fun hb h => ⟨(hb.cell (p := ⟨g, 0, none⟩) (Nat.lt_of_lt_of_le hgl h.2.2.size)).trans h.1, (hb.cell (p := xa.add i) (by rw [Addr.add_block]; exact Nat.lt_of_lt_of_le hxb h.2.2.size)).trans h.2.1, h.2.2.trans (hb.mono h.2.2.size)⟩
      have hb0 : Below wr.heap.size wr wr.drew := (Below.refl _ _).drew
      have HNE : Hid (∃ n, n = T.text.length) := Lib.hid ⟨_, rfl⟩
      obtain ⟨n, hn⟩ := HNE.out
      rw [← hn] at hlen hn26 hpk hpl htl
      have HN := Lib.hid hn; clear hn HNE
      generalize pickN ai (n + 1) = a at *
      have LN := Lib.hid hlen; have PK := Lib.hid hpk
      clear hlen hpk
      go_wp2_with fail
      go_region_held3 (fun w1 => w1.cell? ⟨g, 0, none⟩ = some (.pointer q) ∧ w1.cell? (xa.add i) = some (.int .i64 ai) ∧ Below wr.heap.size wr w1)
        (first
          | exact ⟨hcx, hxc, hb0⟩
          | exact hkeep hbX ⟨hcx, hxc, hb0⟩
          | exact hkeep hbX (by assumption))
        (first
          | (go_at_call 19; ((with_reducible refine (LN.out _ (by assumption)).mono ?_); rintro e w9 ⟨rfl, hbX⟩))
          | (go_at_call 14; ((with_reducible refine (PK.out _).mono ?_); rintro e w9 ⟨rfl, rfl⟩)))
      rename_i hHeld
      have hbd : Below wr.heap.size wr w9 := hHeld.2.2
      have HPb := Lib.hid (HP.out.below hbd)
      clear HP hHeld hcx hxc hb0 hkeep LN PK hgl hxb
      go_upto_if 63 with fail
      go_cut [15] from 60 to 73 (fun v15 wr => ∃ (o : Nat), v15 = .int .i64 o ∧ a + o ≤ n ∧ Hid (PP w g T q stop wr))
      case first =>
        by_cases hio : i < no
        · have hioi : (i : Int) < (no : Int) := by omega
          have hcx := HPb.out.tx.cell
          have hgl := HPb.out.tx.lt
          have hlO : i < O.length := by rw [HOL.out]; exact hio
          obtain ⟨xo, rfl, hxb, hxc⟩ := (HO.out.below HPb.out.bel (Nat.le_refl _)) i hlO
          have hoi : -9223372036854775808 ≤ O.getD i 0 ∧ O.getD i 0 ≤ 9223372036854775807 := by
            have e : O.getD i 0 = O[i] := by rw [List.getD_eq_getElem?_getD, List.getElem?_eq_getElem hlO]; rfl
            rw [e]; exact HO2.out _ (List.getElem_mem hlO)
          generalize O.getD i 0 = oi at *
          have hlen : ∀ w1, (w1.cell? ⟨g, 0, none⟩ = some (.pointer q) ∧ w1.cell? (xo.add i) = some (.int .i64 oi) ∧ Below w9.heap.size w9 w1) → Calls Try.prog 19 #[.agg #[.pointer q]] w1 fun e w' => e = .returned (.int .i64 (n : Nat)) ∧ Below w1.heap.size w1 w' :=
            fun w1 h1 => by rw [HN.out]; exact Len_any q T _ w1 (HPb.out.tx.tr.keep h1.2.2) (Nat.le_refl _)
          have hwr : IntKind.i64.wrap (IntKind.i64.wrap ((n : Int) - (a : Int)) + 1) = ((n - a + 1 : Nat) : Int) := by rw [i64_in ((n : Int) - (a : Int)) (by omega) (by omega), i64_in _ (by omega) (by omega)]; omega
          have hpk := fun w1 => pick_at oi _ (n - a + 1) w1 hwr (by omega) (by omega)
          clear hwr
          have hpl2 := pickN_lt oi (n - a + 1) (by omega)
          have hkeep : ∀ {w1 w2 : World}, Below w1.heap.size w1 w2 → (w1.cell? ⟨g, 0, none⟩ = some (.pointer q) ∧ w1.cell? (xo.add i) = some (.int .i64 oi) ∧ Below w9.heap.size w9 w1) → (w2.cell? ⟨g, 0, none⟩ = some (.pointer q) ∧ w2.cell? (xo.add i) = some (.int .i64 oi) ∧ Below w9.heap.size w9 w2) :=
            fun hb h => ⟨(hb.cell (p := ⟨g, 0, none⟩) (Nat.lt_of_lt_of_le hgl h.2.2.size)).trans h.1, (hb.cell (p := xo.add i) (by rw [Addr.add_block]; exact Nat.lt_of_lt_of_le hxb h.2.2.size)).trans h.2.1, h.2.2.trans (hb.mono h.2.2.size)⟩
          have hb0 : Below w9.heap.size w9 w9.drew := (Below.refl _ _).drew
          generalize pickN oi (n - a + 1) = o at *
          have LN := Lib.hid hlen; have PK := Lib.hid hpk
          clear hlen hpk hbX hbd
          go_wp2_with fail
          go_region_held3 (fun w1 => w1.cell? ⟨g, 0, none⟩ = some (.pointer q) ∧ w1.cell? (xo.add i) = some (.int .i64 oi) ∧ Below w9.heap.size w9 w1)
            (first
              | exact ⟨hcx, hxc, hb0⟩
              | exact hkeep hbX ⟨hcx, hxc, hb0⟩
              | exact hkeep hbX (by assumption))
            (first
              | (go_at_call 19; ((with_reducible refine (LN.out _ (by first | assumption | exact ⟨hcx, hxc, hb0⟩)).mono ?_); rintro e wX ⟨rfl, hbX⟩))
              | (go_at_call 14; ((with_reducible refine (PK.out _).mono ?_); rintro e wX ⟨rfl, rfl⟩)))
          rename_i hHeld
          have hbd : Below w9.heap.size w9 wX := hHeld.2.2
          have HPc := Lib.hid (HPb.out.below hbd)
          clear hHeld
          go_wp2_with fail
          go_meet
          exact ⟨o, rfl, by omega, HPc⟩
        · have hioi : ¬ (i : Int) < (no : Int) := by omega
          go_wp2_with fail
          go_meet
          exact ⟨0, rfl, by omega, HPb⟩
      case rest =>
        obtain ⟨o, rfl, hao, HP⟩ := hcut
        clear HPb hbX hbd hb4
        have hcx := HP.out.tx.cell
        have hgl := HP.out.tx.lt
        obtain ⟨k, hk⟩ : ∃ k, k = x.length * (i % 3) / 2 := ⟨_, rfl⟩
        have hkx : k ≤ x.length := by
          rw [hk]
          have h1 : x.length * (i % 3) ≤ x.length * 2 := Nat.mul_le_mul_left _ (by omega)
          omega
        obtain ⟨m, hm⟩ : ∃ m, m = i % 3 := ⟨_, rfl⟩
        have hm2 : m ≤ 2 := by omega
        have hm3 : (i : Int).tmod 3 = (m : Int) := by rw [Int.tmod_eq_emod_of_nonneg (by omega)]; omega
        obtain ⟨M, hM⟩ : ∃ M, M = x.length * m := ⟨_, rfl⟩
        have hM2 : M ≤ 80 := by
          rw [hM]; exact Nat.le_trans (Nat.mul_le_mul hx hm2) (by decide)
        have hM3 : (x.length : Int) * (m : Int) = (M : Int) := by rw [hM]; push_cast; rfl
        have hM4 : IntKind.i64.wrap ((x.length : Int) * (m : Int)) = (M : Int) := by rw [hM3]; exact i64_in _ (by omega) (by omega)
        have hM5 : IntKind.i64.wrap (M : Int) = (M : Int) := i64_in _ (by omega) (by omega)
        have hk2 : (M : Int).tdiv 2 = (k : Int) := by rw [Int.tdiv_eq_ediv_of_nonneg (by omega), hk, ← hm, ← hM]; omega
        have hk3 : IntKind.i64.wrap (k : Int) = (k : Int) := i64_in _ (by omega) (by omega)
        have hk4 : (0 : Int) ≤ (k : Int) := by omega
        have hk5 : (k : Int) ≤ (x.length : Int) := by omega
        have hk6 := bstr_cut x 0 k
        rw [Nat.sub_zero, List.drop_zero] at hk6
        obtain ⟨T2, hT2⟩ : ∃ T2, T2 = Tr.edit T a o (x.take k) := ⟨_, rfl⟩
        have hed : ∀ w1, (w1.cell? ⟨g, 0, none⟩ = some (.pointer q) ∧ Below wc.heap.size wc w1) → Calls Try.prog 16 #[.agg #[.pointer q], .int .i64 a, .int .i64 o, .string (bstr (x.take k))] w1 fun e w' => ∃ q2, e = .returned (.tuple #[.agg #[.pointer q2], .nilIface]) ∧ IsTr w'.heap.size w' q2 T2 ∧ Below w1.heap.size w1 w' ∧ SX wc g q w' := fun w1 h1 => by
          rw [hT2]
          refine Calls.mono ?_ (fun e w' (⟨q2, e1, e2, e3⟩ : ∃ q2, _ ∧ _ ∧ _) => ⟨q2, e1, e2, e3, SX.keep h1 hgl e3⟩)
          exact Edit_any q T a o (x.take k) w1 (HP.out.tx.tr.keep h1.2) HTT.out.1 (by have := full_wt HTT.out.1; rw [← HN.out] at this; omega) (by rw [← HN.out]; exact hao) (by rw [List.length_take, ← HN.out]; omega)
        have ED := Lib.hid hed
        have HK := Lib.hid hk
        have HT2 := Lib.hid hT2
        have hb0 : Below wc.heap.size wc wc.drew := (Below.refl _ _).drew
        have HM := Lib.hid hm; have HMM := Lib.hid hM
        clear hed hk hT2 hm hM
        go_upto_region 14 with fail
        go_cut [17, 18] from 75 to 88 (fun v17 v18 wr => ∃ (b : Nat) (q2 : Option Addr), v17 = .pointer (some ⟨b, 0, none⟩) ∧ v18 = .nilIface ∧ Hid (EJ w g T q stop b q2 T2 wr))
        case first =>
          go_region_held3 (fun w1 => w1.cell? ⟨g, 0, none⟩ = some (.pointer q) ∧ Below wc.heap.size wc w1)
            (first
              | exact ⟨hcx, hb0⟩
              | exact hSX
              | exact SX.alloc hSX hgl _
              | exact SX.set hSX hgl _
              | exact SX.drew (SX.alloc ⟨hcx, Below.refl _ _⟩ hgl _) hgl)
            (first
              | (go_at_call 16; ((with_reducible refine (ED.out _ (by first | assumption | exact ⟨hcx, hb0⟩ | exact SX.drew (SX.alloc ⟨hcx, Below.refl _ _⟩ hgl _) hgl)).mono ?_); rintro e wX ⟨q2, rfl, ht2, hbX, hSX⟩; obtain ⟨hc9, hf9⟩ := bcellP hbX)))
          all_goals
            go_wp2_with fail
            go_meet
            first
              | exact ⟨_, _, rfl, rfl, Lib.hid (EJ.late HP.out hSX ht2)⟩
              | exact ⟨_, _, rfl, rfl, Lib.hid (EJ.early HP.out hgl hSX hbX ht2)⟩
        case rest =>
          obtain ⟨b, q2, rfl, rfl, HE⟩ := hcut
          have hlk : (x.take k).length ≤ 40 := by rw [List.length_take]; omega
          obtain ⟨ef1, ef2⟩ := Tr.edit_full T a o (x.take k) HTT.out.1 (by rw [← HN.out]; exact hao)
          have eb := Tr.edit_bal T a o (x.take k) HTT.out.2
          have et := congrArg List.length (Tr.edit_text T a o (x.take k) HTT.out.1 (by rw [← HN.out]; exact hao))
          rw [← HT2.out] at ef1 ef2 eb et
          simp only [List.length_append, List.length_take, List.length_drop] at et
          rw [← HN.out] at et
          have et2 : T2.text.length ≤ n + 40 := by rw [et]; omega
          have ep := Tr.bal_pow T2 eb
          have ec := ef1.count_le
          have ec0 := HTT.out.1.count_le
          rw [← HN.out] at ec0
          have HT3 := Lib.hid (And.intro ef1 eb)
          have HEP := Lib.hid ep
          have hce := HE.out.c
          have hcg := HE.out.p.tx.cell
          have hfg := HE.out.p.tx.box.frozen
          have hP5 := HE.out.p.put HE.out.t
          have hcx5 := hP5.tx.cell
          have HP5 := Lib.hid hP5
          clear hP5 HP HTT hlk et ep ef1 eb hcx hgl hb0 HK HT2 hk2 hk3 hk4 hk5 hk6 hM3 hM4 hM5 hm3 ED HM HMM
          go_wp2_with fail
          refine (Parts_any q2 T2 _ HP5.out.tx.tr HT3.out.1 (by omega)).mono ?_
          rintro e w6 ⟨rfl, hb6⟩
          have HP6 := Lib.hid (HP5.out.below hb6)
          clear HP5 hce hcg hfg hcx5 HE
          have hdp := fun W => deepest_any T2.count T2.high W (by omega) HEP.out
          have htc : T2.count ≤ 2600 := by omega
          have hth : T2.high ≤ 2600 := by have := T2.high_le; omega
          have hty : T2.text.length ≤ 200 + 40 * (i + 1) := by omega
          obtain ⟨n2, hn2⟩ : ∃ n2, n2 = T2.count := ⟨_, rfl⟩
          obtain ⟨h2, hh2⟩ : ∃ h2, h2 = T2.high := ⟨_, rfl⟩
          rw [← hn2, ← hh2] at hdp
          rw [← hn2] at htc ef2 ⊢
          rw [← hh2] at hth ⊢
          have HN2 := Lib.hid hn2
          have HDP := Lib.hid hdp
          have htT : T.count ≤ 2600 := by omega
          have hg1 : decide ((T.count : Int) + 2 < (n2 : Int)) = false := decide_eq_false (by omega)
          have hg2 : ¬ (T.count : Int) + 2 < (n2 : Int) := by omega
          generalize T.count = tc at *
          clear HEP hn2 hh2 hdp et2 ec ec0
          by_cases hz : 0 < n2
          · have hz1 : (0 : Int) < (n2 : Int) := by omega
            go_wp2_with fail
            refine (HDP.out _).mono ?_
            rintro e w7 ⟨d, rfl, hd1, hd2, rfl⟩
            have hd3 : decide ((d : Int) < (h2 : Int)) = false := decide_eq_false (by omega)
            have hd4 : ¬ (d : Int) < (h2 : Int) := by omega
            go_wp2_with fail
            go_roundw
            case rel => exact ⟨i + 1, T2, q2, by omega, by go_num, by rw [HN2.out], hty, HT3, HP6⟩
            case measure => simp [intOf]; omega
          · have hz1 : decide ((0 : Int) < (n2 : Int)) = false := decide_eq_false (by omega)
            have hz2 : ¬ (0 : Int) < (n2 : Int) := by omega
            go_wp2_with fail
            go_roundw
            case rel => exact ⟨i + 1, T2, q2, by omega, by go_num, by rw [HN2.out], hty, HT3, HP6⟩
            case measure => simp [intOf]; omega
    · obtain rfl : i = na := by omega
      have hd : decide ((i : Int) < (i : Int)) = false := by simp
      have hcx := HP.out.tx.cell
      have hwt := full_wt HTT.out.1
      obtain ⟨L, hL, hLn⟩ := fullList HTT.out.1 (by omega) (by omega)
      have hlc : L.length = T.count := by rw [T.count_eq, ← hL, List.length_map]
      have hcb : T.count ≤ 2600 := by have := HTT.out.1.count_le; omega
      have hfl : flat L = T.text := by unfold flat; rw [hL, ← Tr.text_eq]
      have htr := HP.out.tx.tr
      have hgl := HP.out.tx.lt
      have bS := Boxed.new wr 9 (.string (bstr []))
      have bK := Boxed.new (wr.alloc (.cells #[.string (bstr [])] 9)) 3 (.int .i64 0)
      have bN := Boxed.new ((wr.alloc (.cells #[.string (bstr [])] 9)).alloc (.cells #[.int .i64 0] 3)) 26 (.pointer q)
      have hW0 : Below wr.heap.size wr (((wr.alloc (.cells #[.string (bstr [])] 9)).alloc (.cells #[.int .i64 0] 3)).alloc (.cells #[.pointer q] 26)) := (((Below.refl _ wr).alloc (Nat.le_refl _) _).alloc (by simp) _).alloc (by simp; omega) _
      have bS' := (bS.alloc (.cells #[.int .i64 0] 3)).alloc (.cells #[.pointer q] 26)
      have bK' := bK.alloc (.cells #[.pointer q] 26)
      simp only [World.size_alloc] at bS bK bN bS' bK'
      go_wp2_with (go_at_call 21; refine (callsIn_wide.1 (all_in Fence.wide 8 trivial rfl q _)).mono ?_; rintro e w' ⟨rfl, rfl⟩)
      refine (wpIn_wide (n := 9)).1 ?_
      refine' wpIn_rangeFunc_ownG rfl (by decide) (gf := 53) (lb := #[.pointer (some ⟨wr.heap.size + 1 + 1, 0, none⟩)]) rfl trivial (enters_of Try.func53 (by kernel_rfl) rfl)
        (all_stops Fence.wide rfl (9 - 1) trivial trivial rfl (wr.heap.size + 1 + 1) wr.heap.size q T L hL _ (by simp) (by simp; omega) bN.cell (htr.below hW0)) belowK_t (belowK_b (by simp; omega)) (Below.refl _ _) (fun _ => rfl)
        (fun pre W => (Boxed W wr.heap.size 9 (.string (bstr (flat pre))) ∧ Boxed W (wr.heap.size + 1) 3 (.int .i64 0)) ∧ Below wr.heap.size wr W)
        (fun _ _ _ => False)
        (OwnFrom.and (Own.from (fun s X Y row hs hg hr => ⟨boxed_own wr.heap.size 9 (fun pre : List Pc => .string (bstr (flat pre))) s X Y row hs.1 hg hr, boxed_own (wr.heap.size + 1) 3 (fun _ : List Pc => .int .i64 0) s X Y row hs.2 hg hr⟩) _) (ownFrom_below (Nat.le_refl _) (by simp; omega)))
        (fun _ _ _ _ _ hs _ _ => hs)
        ⟨⟨bS', bK'⟩, hW0⟩
        _ ?assign ?body ?done ?stop
      case assign =>
        intro l x W K hK
        gi_wp2
        exact hK
      case body =>
        rintro l pre y W ⟨⟨v1, v2⟩, hB⟩ hlt
        have he : y.1.isEmpty = false := by
          have := y.2.1
          cases h : y.1 with
          | nil => exact absurd h this
          | cons _ _ => rfl
        have hpl := flat_bound pre
        have hy2 := y.2.2
        have hsz : (flat pre).length + y.1.length ≤ 140737488355328 := by
          have : pre.length * 100000 ≤ 110000 * 100000 := Nat.mul_le_mul_right _ (by omega)
          omega
        have hsz1 : ¬ 9223372036854775807 < (flat pre).length + y.1.length := by omega
        have hc := v1.cell
        have hfz := v1.frozen
        have hap := flat_snoc pre y
        clear hpl
        gi_wp2
        have hs1 := (v1.set (.string (bstr (flat pre ++ y.1))))
        rw [← hap] at hs1 ⊢
        exact ⟨(KeepsOthers.setCell _ _ _).from _, (Below.refl _ _).setCell (p := ⟨wr.heap.size, 0, none⟩) (Nat.le_refl _) _, ⟨hs1, v2.other (by omega) _⟩, hB.setCell (p := ⟨wr.heap.size, 0, none⟩) (Nat.le_refl _) _⟩
      case done =>
        rintro D ys W hD rfl ⟨⟨v1, v2⟩, hB⟩ hK
        have HPW := Lib.hid (HP.out.below hB)
        have hwr : IntKind.i64.wrap ((T.count : Int) + 1) = ((T.count + 1 : Nat) : Int) := by rw [i64_in _ (by omega) (by omega)]; rfl
        have hpk := fun w1 => pick_at stop ((T.count : Int) + 1) (T.count + 1) w1 (by omega) (by omega) (by omega)
        have hpl := pickN_lt stop (T.count + 1) (by omega)
        generalize pickN stop (T.count + 1) = st at *
        have c9 := HPW.out.b9.cell
        have f9 := HPW.out.b9.frozen
        have cg := HPW.out.tx.cell
        have PK := Lib.hid hpk
        clear hpk hwr bS bK bN bS' bK' hW0
        go_wp2_with fail
        refine (PK.out _).mono ?_
        rintro e w5 ⟨rfl, rfl⟩
        have hPS := HPW.out.stop st
        have c9' := hPS.b9.cell
        have cg' := hPS.tx.cell
        go_wp2_with (go_at_call 21; refine (callsIn_wide.1 (all_in Fence.wide 8 trivial rfl q _)).mono ?_; rintro e w' ⟨rfl, rfl⟩)
        have hsp := HPW.out.hg
        have hwz := HPW.out.bel.size
        have hD3 : wr.heap.size + 2 < D := by simp at hD; omega
        have tr1 : IsTr wr.heap.size (W.setCell ⟨w.heap.size, 0, none⟩ (.int .i64 st)) q T := (htr.below hB).setBox HPW.out.b9 _
        have hdl : D < W.heap.size := (Array.getElem?_eq_some_iff.1 hK).1
        have dK1 : (W.setCell ⟨w.heap.size, 0, none⟩ (.int .i64 st)).heap[D]? = some (.deferred (some [])) := by
          simp only [World.setCell, Array.getElem?_modify]
          rw [if_neg (by omega)]
          exact hK
        have bS1 := v1.other (B' := w.heap.size) (by omega) (.int .i64 st)
        have bK1 := v2.other (B' := w.heap.size) (by omega) (.int .i64 st)
        have hzz : (W.setCell ⟨w.heap.size, 0, none⟩ (.int .i64 st)).heap.size = W.heap.size := by simp [World.setCell]
        rw [hfl] at bS1
        generalize W.setCell ⟨w.heap.size, 0, none⟩ (.int .i64 (st : Nat)) = WP at *
        have hab := (Below.refl WP.heap.size WP).alloc (Nat.le_refl _) (.cells #[.pointer q] 26)
        have hP2 := hPS.below hab
        have bS2 := bS1.alloc (.cells #[.pointer q] 26)
        have bK2 := bK1.alloc (.cells #[.pointer q] 26)
        have bN2 := Boxed.new WP 26 (.pointer q)
        rw [hzz] at bN2
        have tr2 := tr1.below (hab.mono (by omega))
        have dK2 := (hab.block D (by omega)).trans dK1
        have hs2 : (WP.alloc (.cells #[.pointer q] 26)).heap.size = WP.heap.size + 1 := by simp
        generalize hW2e : WP.alloc (.cells #[.pointer q] 26) = W2 at *
        have HQ0 := Lib.hid (QJ.mk bK2 (Below.refl _ _) dK2)
        have hwS : w.heap.size + 1 < wr.heap.size := by omega
        have c92 := hP2.b9.cell
        have hz9 : w.heap.size < W2.heap.size := by omega
        have HP2 := Lib.hid hP2
        have HS2 := Lib.hid bS2
        have HTR := Lib.hid tr2
        clear hP2 bS2 tr2 tr1 bS1 bK1 dK1 dK2 hab bK2 hPS c9' cg' c9 f9 cg HPW PK v1 v2 hK hB hW2e
        refine (wpIn_wide (n := 9)).1 ?_
        refine' wpIn_rangeFunc_ownG rfl (by decide) (gf := 53) (lb := #[.pointer (some ⟨W.heap.size, 0, none⟩)]) rfl trivial (enters_of Try.func53 (by kernel_rfl) rfl)
          (all_stops Fence.wide rfl (9 - 1) trivial trivial rfl W.heap.size (wr.heap.size + 1) q T ys hL W2 (by omega) (by omega) bN2.cell (HTR.out.up (by omega))) belowK_t (belowK_b (by omega)) (Below.refl _ _) (fun _ => rfl)
          (fun pre X => QJ W2 D (wr.heap.size + 1) pre.length X ∧ pre.length ≤ st)
          (fun c _ X => c = .exit 4 ∧ QJ W2 D (wr.heap.size + 1) st X)
          (fun s X Y row hs hg hr => ⟨hs.1.own (by omega) hg hr, hs.2⟩)
          (fun c s X Y row hs hg hr => ⟨hs.1, hs.2.own (by omega) hg hr⟩)
          ⟨HQ0.out, Nat.zero_le _⟩
          _ ?assign2 ?body2 ?done2 ?stop2
        case assign2 =>
          intro l x W K hK
          gi_wp2
          exact hK
        case body2 =>
          rintro l pre y X ⟨hq, hle⟩ hlt2
          have c9 := (hq.bel.cell (p := ⟨w.heap.size, 0, none⟩) (by show w.heap.size < _; omega)).trans c92
          have cK := hq.bk.cell
          have fK := hq.bk.frozen
          by_cases hpe : pre.length = st
          · have hq2 := hq
            rw [hpe] at cK hq2
            have hde : decide ((st : Int) = (st : Int)) = true := by simp
            gi_wp2
            exact ⟨KeepsFrom.refl _ _, rfl, hq2⟩
          · have hde : decide ((pre.length : Int) = (st : Int)) = false := decide_eq_false (by omega)
            have hde2 : ¬ (pre.length : Int) = (st : Int) := by omega
            have hde3 : ¬ (pre.length : Nat) = st := hpe
            have hpb : pre.length + 1 ≤ 110000 := by omega
            gi_wp2
            have hs3 := hq.set (by omega) (pre.length + 1)
            have e : (pre ++ [y]).length = pre.length + 1 := by simp
            exact ⟨(KeepsOthers.setCell _ _ _).from _, (Below.refl _ X).setCell (p := ⟨wr.heap.size + 1, 0, none⟩) (Nat.le_refl _) _, by rw [e]; exact hs3, by rw [e]; omega⟩
        case done2 =>
          rintro D2 zs X hD2 rfl ⟨hq, hle⟩ hK2
          obtain rfl : st = zs.length := by omega
          have hTB : TBV w wr.heap.size D D2 g T q zs.length (bstr T.text) X := TBV.mk' hq (by omega) (by omega) (by omega) (by omega) HP2.out HS2.out (HTR.out) hK2
          have HTB := Lib.hid hTB
          clear hq hTB
          have HF := HTT.out.1
          obtain ⟨t1, t2, t3, t4, t5, t6, t7⟩ := (HTB.out.below (Below.refl _ _).drew).cells
          have hst9 : ∀ Y, TBV w wr.heap.size D D2 g T q zs.length (bstr T.text) Y → Calls Try.prog 17 #[.agg #[.pointer q]] Y fun e w' => e = .returned (.string (bstr T.text)) ∧ TBV w wr.heap.size D D2 g T q zs.length (bstr T.text) w' := fun Y h =>
            (String_any q T Y h.tr HF (by omega)).mono fun e w' ⟨e1, e2⟩ => ⟨e1, h.below e2⟩
          have ST9 := Lib.hid hst9
          have hbb : (bstr T.text).toList = (bstr T.text).toList := rfl
          clear hst9 HTR HS2 HP2
          generalize bstr T.text = V at *
          go_wp2_with fail
          go_region_held3 (fun w1 => w1.cell? ⟨wr.heap.size, 0, none⟩ = some (.string V) ∧ w1.cell? ⟨wr.heap.size + 1, 0, none⟩ = some (.int .i64 (zs.length : Nat)) ∧ w1.cell? ⟨w.heap.size, 0, none⟩ = some (.int .i64 (zs.length : Nat)) ∧ w1.cell? ⟨g, 0, none⟩ = some (.pointer q) ∧ w1.cell? ⟨w.heap.size + 1, 0, none⟩ = some (.bool (cellB (w.heap.size + 1) w1)) ∧ w1.frozen? ⟨w.heap.size + 1, 0, none⟩ = false ∧ TBV w wr.heap.size D D2 g T q zs.length V w1)
            (first
              | exact ⟨t1, t2, t3, t4, t5, t6, t7⟩
              | exact hX9.cells
              | exact (hX9.set _).cells)
            (first
              | (go_at_call 17; ((with_reducible refine (ST9.out _ (by first | assumption | exact t7)).mono ?_); rintro e wX ⟨rfl, hX9⟩)))
          have hf := hX9.set true
          obtain ⟨cc, hcc⟩ := hX9.b10
          have c10 := hcc.set (.bool true)
          go_wp2_with fail
          generalize wX.setCell ⟨w.heap.size + 1, 0, none⟩ (.bool true) = WX at *
          clear hX9 hcc
          refine ⟨by simp, .inl ⟨_, _, rfl, run_takeDeferred hf.d2, ?_⟩⟩
          have hn1 := hf.n1; have hn2 := hf.n2; have hn3 := hf.n3; have hn4 := hf.n4
          have e2 := hf.d2
          have g2 := grownBy_putObj' WX D2 (.deferred none)
          have e1 := (g2.block D (Array.getElem?_eq_some_iff.1 hf.d1).1 (fun e => by cases e; omega)).trans hf.d1
          have l2 := hf.bel.trans (belowK_b (w := w) (Nat.le_refl _) WX D2 _ (.deferred none) (by omega) e2 rfl rfl)
          have c2 := c10.kept g2 (fun e => by cases e; omega)
          generalize WX.putObj D2 (.deferred none) = WY at *
          have g1 := grownBy_putObj' WY D (.deferred none)
          have l1 := l2.trans (belowK_b (w := w) (Nat.le_refl _) WY D _ (.deferred none) (by omega) e1 rfl rfl)
          have c1 := (c2.kept g1 (fun e => by cases e; omega)).cell
          refine ⟨by simp, .inl ⟨_, _, rfl, run_takeDeferred e1, ?_⟩⟩
          exact ⟨.bool true, by simp [results, Try.results4, go_sem, c1], rfl, l1⟩
        case stop2 =>
          rintro D2 c pre X hD2 _ ⟨rfl, hq⟩ hK2
          have hTB : TBV w wr.heap.size D D2 g T q st (bstr T.text) X := TBV.mk' hq (by omega) (by omega) (by omega) (by omega) HP2.out HS2.out (HTR.out) hK2
          have HTB := Lib.hid hTB
          clear hq hTB
          have HF := HTT.out.1
          obtain ⟨t1, t2, t3, t4, t5, t6, t7⟩ := (HTB.out.below (Below.refl _ _).drew).cells
          have hst9 : ∀ Y, TBV w wr.heap.size D D2 g T q st (bstr T.text) Y → Calls Try.prog 17 #[.agg #[.pointer q]] Y fun e w' => e = .returned (.string (bstr T.text)) ∧ TBV w wr.heap.size D D2 g T q st (bstr T.text) w' := fun Y h =>
            (String_any q T Y h.tr HF (by omega)).mono fun e w' ⟨e1, e2⟩ => ⟨e1, h.below e2⟩
          have ST9 := Lib.hid hst9
          have hbb : (bstr T.text).toList = (bstr T.text).toList := rfl
          clear hst9 HTR HS2 HP2
          generalize bstr T.text = V at *
          gi_wp2
          go_wp2_with fail
          go_region_held3 (fun w1 => w1.cell? ⟨wr.heap.size, 0, none⟩ = some (.string V) ∧ w1.cell? ⟨wr.heap.size + 1, 0, none⟩ = some (.int .i64 (st : Nat)) ∧ w1.cell? ⟨w.heap.size, 0, none⟩ = some (.int .i64 (st : Nat)) ∧ w1.cell? ⟨g, 0, none⟩ = some (.pointer q) ∧ w1.cell? ⟨w.heap.size + 1, 0, none⟩ = some (.bool (cellB (w.heap.size + 1) w1)) ∧ w1.frozen? ⟨w.heap.size + 1, 0, none⟩ = false ∧ TBV w wr.heap.size D D2 g T q st V w1)
            (first
              | exact ⟨t1, t2, t3, t4, t5, t6, t7⟩
              | exact hX9.cells
              | exact (hX9.set _).cells)
            (first
              | (go_at_call 17; ((with_reducible refine (ST9.out _ (by first | assumption | exact t7)).mono ?_); rintro e wX ⟨rfl, hX9⟩)))
          have hf := hX9.set true
          obtain ⟨cc, hcc⟩ := hX9.b10
          have c10 := hcc.set (.bool true)
          go_wp2_with fail
          generalize wX.setCell ⟨w.heap.size + 1, 0, none⟩ (.bool true) = WX at *
          clear hX9 hcc
          refine ⟨by simp, .inl ⟨_, _, rfl, run_takeDeferred hf.d2, ?_⟩⟩
          have hn1 := hf.n1; have hn2 := hf.n2; have hn3 := hf.n3; have hn4 := hf.n4
          have e2 := hf.d2
          have g2 := grownBy_putObj' WX D2 (.deferred none)
          have e1 := (g2.block D (Array.getElem?_eq_some_iff.1 hf.d1).1 (fun e => by cases e; omega)).trans hf.d1
          have l2 := hf.bel.trans (belowK_b (w := w) (Nat.le_refl _) WX D2 _ (.deferred none) (by omega) e2 rfl rfl)
          have c2 := c10.kept g2 (fun e => by cases e; omega)
          generalize WX.putObj D2 (.deferred none) = WY at *
          have g1 := grownBy_putObj' WY D (.deferred none)
          have l1 := l2.trans (belowK_b (w := w) (Nat.le_refl _) WY D _ (.deferred none) (by omega) e1 rfl rfl)
          have c1 := (c2.kept g1 (fun e => by cases e; omega)).cell
          refine ⟨by simp, .inl ⟨_, _, rfl, run_takeDeferred e1, ?_⟩⟩
          exact ⟨.bool true, by simp [results, Try.results4, go_sem, c1], rfl, l1⟩
      case stop =>
        rintro D c pre W _ _ h _
        exact h.elim
end Go.Proofs.Ytenhblpegobbjaa
