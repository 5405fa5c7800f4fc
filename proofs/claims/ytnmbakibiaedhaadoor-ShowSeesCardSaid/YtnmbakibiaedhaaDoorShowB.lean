/- Contract of show.Lines. -/
import Derived.Test.YtnmbakibiaedhaaDoorShowA
import Derived.Test.YtnmbakibiaedhaaDoorOwn
import Derived.Test.YtnmbakibiaedhaaDoorOwnStep
import Derived.Deep.DeepCutAuto
import Derived.Deep.CutBlock
import Derived.Deep.RegionHeld3
import Derived.Shelf.Strings.MapGrows
import Derived.Lib.OthersKept
namespace Go.Proofs.YtnmbakibiaedhaaDoor
open Go.RowKit
set_option linter.unusedVariables false
set_option linter.unusedSimpArgs false
def strVals (L : List (List UInt8)) : List Value := L.map fun x => .string (bstr x)
theorem strVals_snoc (L : List (List UInt8)) (x : List UInt8) : strVals (L ++ [x]) = strVals L ++ [.string (bstr x)] := by simp [strVals]
theorem infoStr : (Tryd.prog.info? 9).map (fun i => (i.zero, i.size, i.bytes)) = some (some (.string ByteArray.empty), 1, 16) := by kernel_rfl
def viewCells (s : List UInt8) (at_ : Nat) (low : Bool) (mode : Int) (typed : ByteArray) (toldE un mk : Int) : List Value := [.string (bstr s), .int .i64 (at_ : Nat), .bool low, .int .i64 mode, .string typed, .int .i64 toldE, .int .i64 un, .int .i64 mk]
/-- what Lines holds: the view's box, the rows so far -/
structure LnS (B : Nat) (vw : List Value) (w0 W : World) (a : Option Addr) (n cap : Nat) (L : List (List UInt8)) : Prop where
  box : RowAt W B 0 65 vw
  own : Owns W (B + 1) 9 1 a n cap (strVals L)
  bel : Below B w0 W
  sz : B + 1 ≤ W.heap.size
theorem LnS.push {B n cap cap' : Nat} {vw : List Value} {w0 W W' : World} {a a' : Option Addr} {L : List (List UInt8)} (h : LnS B vw w0 W a n cap L) (x : List UInt8) (hown' : Owns W' (B + 1) 9 1 a' (n + 1) cap' (strVals L ++ [.string (bstr x)])) (hgrow : W.grownBy W' (blk a)) : LnS B vw w0 W' a' (n + 1) cap' (L ++ [x]) :=
  ⟨h.box.blk h.own hgrow (by omega), by rw [strVals_snoc]; exact hown', below_blk h.bel h.own (by omega) (by have := h.sz; omega) hgrow, Nat.le_trans h.sz hgrow.size⟩
theorem LnS.call {B n cap : Nat} {vw : List Value} {w0 W W' : World} {a : Option Addr} {L : List (List UInt8)} (h : LnS B vw w0 W a n cap L) (hb : Below W.heap.size W W') : LnS B vw w0 W' a n cap L :=
  ⟨h.box.below hb h.box.lt, h.own.below hb (Nat.le_refl _), h.bel.trans (hb.mono (by have := h.sz; omega)), Nat.le_trans h.sz hb.size⟩
theorem LnS.line {B n cap cap' : Nat} {vw : List Value} {w0 w1 w9 w4 : World} {a a' : Option Addr} {L : List (List UInt8)} {x : List UInt8} {ob : Obj} (h : LnS B vw w0 w1 a n cap L) (hb : Below w1.heap.size w1 w9) (hown' : Owns w4 (B + 1) 9 1 a' (n + 1) cap' (strVals L ++ [.string (bstr x)])) (hgrow : (w9.alloc ob).grownBy w4 (blk a)) : LnS B vw w0 w4 a' (n + 1) cap' (L ++ [x]) :=
  ((h.call hb).call ((Below.refl _ _).alloc (Nat.le_refl _) ob)).push x hown' hgrow
/-- in a row's last statement: the view's text, the builder, since the world w1 -/
structure RS (B Bb : Nat) (s l : List UInt8) (w1 V : World) : Prop where
  c0 : V.cell? ⟨B, 0, none⟩ = some (.string (bstr s))
  bd : Lib.IsBuilderF 105 5 Bb Bb (Lib.byteCells l) V
  bel : Below Bb w1 V
  sz : Bb < V.heap.size
theorem RS.up {B Bb : Nat} {s l : List UInt8} {w1 V V' : World} (h : RS B Bb s l w1 V) (hB : B < Bb) (hb : Lib.IsBuilderF 105 5 Bb Bb (Lib.byteCells l) V') (hbel : Below Bb V V') : RS B Bb s l w1 V' :=
  ⟨(hbel.cell (p := ⟨B, 0, none⟩) hB).trans h.c0, hb, h.bel.trans hbel, Nat.lt_of_lt_of_le h.sz hbel.size⟩
set_option maxRecDepth 100000 in
set_option maxHeartbeats 4000000 in
theorem Lines_any (s : List UInt8) (at_ top rows : Nat) (low : Bool) (mode : Int) (typed : ByteArray) (toldE un mk : Int) (w : World) (hs : s.length ≤ 1000) (ha : at_ ≤ 1000) (h1 : 1 ≤ rows) (h2 : rows ≤ 16) (ht : top ≤ 1000) :
    Calls Tryd.prog 33 #[.agg #[.string (bstr s), .int .i64 (at_ : Nat), .bool low, .int .i64 mode, .string typed, .int .i64 toldE, .int .i64 un, .int .i64 mk], .int .i64 (top : Nat), .int .i64 (rows : Nat)] w fun e w' =>
      ∃ a cap, e = .returned (.tuple #[.slice a rows cap, .nilIface]) ∧ Owns w' (w.heap.size + 1) 9 1 a rows cap (strVals ((List.range rows).map fun k => Sw.line s at_ (Sw.scr top rows at_ + k))) ∧ Below w.heap.size w w' := by
  have hsc := fun w => Scroll_any top rows at_ w h1 h2 (by omega) (by omega)
  have hto : Sw.scr top rows at_ ≤ 1000 := by have := (Sw.scr_sees top rows at_ h1).1; omega
  generalize Sw.scr top rows at_ = f0 at *
  have HSC := Lib.hid hsc
  clear hsc
  have hbox := RowAt.new w 65 #[.string (bstr s), .int .i64 (at_ : Nat), .bool low, .int .i64 mode, .string typed, .int .i64 toldE, .int .i64 un, .int .i64 mk]
  have hbb := (Below.refl w.heap.size w).alloc (Nat.le_refl _) (.cells #[.string (bstr s), .int .i64 (at_ : Nat), .bool low, .int .i64 mode, .string typed, .int .i64 toldE, .int .i64 un, .int .i64 mk] 65)
  have hst : LnS w.heap.size (viewCells s at_ low mode typed toldE un mk) w (w.alloc (.cells #[.string (bstr s), .int .i64 (at_ : Nat), .bool low, .int .i64 mode, .string typed, .int .i64 toldE, .int .i64 un, .int .i64 mk] 65)) none 0 0 [] := ⟨hbox, Owns.nil _ _ _ _, hbb, by simp⟩
  have HST := Lib.hid hst
  clear hbox hbb hst
  have c1 := HST.out.box.cell0 1 (by simp [viewCells])
  simp only [viewCells, List.getElem_cons_succ, List.getElem_cons_zero] at c1
  go_enter Tryd.func33, Tryd.ntmps33
  go_wp2_with fail
  refine (HSC.out _).mono ?_
  rintro e w1 ⟨rfl, rfl⟩
  go_wp2_with fail
  generalize hB0 : w.heap.size = B at *
  have HB0 := Lib.hid hB0
  clear hB0
  clear c1
  go_loopw [9, 10, 11, 12, 13, 14, 15, 16] (fun v9 v10 _ _ _ _ _ _ wr => ∃ (k : Nat) (a : Option Addr) (cap : Nat), k ≤ rows ∧ v9 = .slice a k cap ∧ v10 = .int .i64 ((f0 + k : Nat) : Int) ∧ Hid (LnS B (viewCells s at_ low mode typed toldE un mk) w wr a k cap ((List.range k).map fun k => Sw.line s at_ (f0 + k)))) (fun _ v10 _ _ _ _ _ _ _ => f0 + rows - (intOf v10).toNat)
  case atStart => exact ⟨0, none, 0, by omega, rfl, by simp, HST⟩
  case round =>
    obtain ⟨k, a, cap, hk, rfl, rfl, HS⟩ := hrel
    obtain ⟨r, hr⟩ : ∃ r, r = f0 + k := ⟨_, rfl⟩
    rw [← hr]
    by_cases hlt : k < rows
    · have hri : (r : Int) < (f0 : Int) + (rows : Int) := by omega
      have hsucc : (List.range (k + 1)).map (fun k => Sw.line s at_ (f0 + k)) = (List.range k).map (fun k => Sw.line s at_ (f0 + k)) ++ [Sw.line s at_ r] := by rw [hr, List.range_succ, List.map_append]; rfl
      obtain ⟨fr, hfr⟩ : ∃ fr, fr = 16 * r := ⟨_, rfl⟩
      have hfi : (r : Int) * 16 = (fr : Int) := by omega
      have hr2 : r ≤ 2000 := by omega
      have hlen : ((List.range k).map fun k => Sw.line s at_ (f0 + k)).length = k := by simp
      generalize (List.range k).map (fun k => Sw.line s at_ (f0 + k)) = L at *
      have c0 := HS.out.box.cell0 0 (by simp [viewCells])
      have c1 := HS.out.box.cell0 1 (by simp [viewCells])
      simp only [viewCells, List.getElem_cons_succ, List.getElem_cons_zero] at c0 c1
      have HSU := Lib.hid hsucc; have HR := Lib.hid hr; have HFR := Lib.hid hfr
      have hrk : (r : Int) + 1 = ((f0 + (k + 1) : Nat) : Int) := by omega
      have HRK := Lib.hid hrk
      clear hsucc hr hfr hlen hrk
      by_cases hA : s.length ≤ fr ∧ 0 < r
      · have q1 : decide ((s.length : Int) ≤ (fr : Int)) = true := decide_eq_true (by omega)
        have q1n : decide (s.length ≤ fr) = true := decide_eq_true hA.1
        have q2 : decide ((0 : Int) < (r : Int)) = true := decide_eq_true (by omega)
        have q2n : decide (0 < r) = true := decide_eq_true hA.2
        have hline : Sw.line s at_ r = [126] := by rw [Sw.line, ← HFR.out, if_pos hA]
        rw [hline] at HSU
        have ho := HS.out.own
        have hz := HS.out.sz
        clear hA hline
        go_wp2_with (with_reducible refine wpList_push _ rfl _ _ 56 rfl (B + 1) 9 (.string ByteArray.empty) 1 16 Tryd.underlying56 infoStr rfl (by decide) a k cap _ rfl ho [.string { data := #[126] }] rfl (by simp [Value.oneCell']) rfl (by unfold maxLen; omega) (by omega) hz ?_; intro a' cap' w' hown' hgrow hloc hsz' hex)
        have hS' := HS.out.push [126] hown' hgrow
        rw [← HSU.out] at hS'
        have HS' := Lib.hid hS'
        refine ⟨⟨k + 1, a', cap', by omega, rfl, by rw [HRK.out], HS'⟩, ?_⟩
        simp [intOf]
        omega
      · have hline : Sw.line s at_ r = Digits.ds 16 fr 8 ++ Sw.cells s at_ fr 16 ++ [32] ++ Xx.shown ((s.drop (min fr s.length)).take (min (fr + 16) s.length - min fr s.length)) := by
          rw [Sw.line, ← HFR.out, if_neg hA]
        rw [hline] at HSU
        have hpr := fun w => Print16 fr w (by have := HFR.out; omega)
        have hau : IntKind.u64.wrap (fr : Int) = (fr : Int) := by rw [IntKind.wrap_u64]; have := HFR.out; omega
        have hp8 : (Digits.ds 16 fr 8).length = 8 := Digits.ds_length 16 fr 8
        have hfr3 : fr ≤ 32000 := by have := HFR.out; omega
        generalize Digits.ds 16 fr 8 = P8 at *
        have HPR := Lib.hid hpr; have HP8 := Lib.hid hp8
        have key : (decide ((s.length : Int) ≤ (fr : Int)) = false ∧ decide (s.length ≤ fr) = false) ∨ (decide ((s.length : Int) ≤ (fr : Int)) = true ∧ decide (s.length ≤ fr) = true ∧ decide ((0 : Int) < (r : Int)) = false ∧ decide (0 < r) = false) := by
          by_cases h : s.length ≤ fr
          · exact .inr ⟨decide_eq_true (by omega), decide_eq_true h, decide_eq_false (by omega), decide_eq_false (by omega)⟩
          · exact .inl ⟨decide_eq_false (by omega), decide_eq_false h⟩
        clear hA hline hpr hp8
        rcases key with ⟨q1, q1n⟩ | ⟨q1, q1n, q2, q2n⟩
        all_goals
          go_wp2_with fail
          refine (HPR.out _).mono ?_
          rintro e w1 ⟨rfl, hb1⟩
          have hS1 := HS.out.call hb1
          have HS1 := Lib.hid hS1
          have hfr0 := IsB.fresh w1
          have hbA := (Below.refl w1.heap.size w1).alloc (Nat.le_refl _) (.cells #[.pointer none, .slice none 0 0] 105)
          have hszA : w1.heap.size < (w1.alloc (.cells #[.pointer none, .slice none 0 0] 105)).heap.size := by simp
          have HFRE := Lib.hid hfr0
          have HBA := Lib.hid hbA
          have HSA := Lib.hid hszA
          have HBb : Hid (B < w1.heap.size) := Lib.hid hS1.sz
          have HEQ : Hid (∃ z, z = w1.heap.size) := Lib.hid ⟨_, rfl⟩
          clear hS1 hb1 hfr0 hbA hszA
          go_wp2_with fail
          obtain ⟨Bb, hBb⟩ := HEQ.out
          rw [← hBb] at HFRE HBA HSA HBb ⊢
          have HBE := Lib.hid hBb
          clear hBb
          refine (WriteString_any Bb Bb [] P8 _ HFRE.out (by have := HP8.out; simp; omega) (Nat.le_of_lt HSA.out)).mono ?_
          rintro e w2 ⟨rfl, hi2, hb2, _⟩
          have HI2 := Lib.hid hi2
          have HB2 := Lib.hid (HBA.out.trans hb2)
          have hs2 : Bb < w2.heap.size := hi2.lt
          clear hi2 hb2
          go_wp2_with fail
          go_loopw [15, 16] (fun v15 _ wr => ∃ j : Nat, j ≤ 16 ∧ v15 = .int .i64 ((fr + j : Nat) : Int) ∧ Hid (IsB Bb Bb (P8 ++ Sw.cells s at_ fr j) wr) ∧ Hid (Below Bb w1 wr) ∧ Bb < wr.heap.size) (fun v15 _ _ => fr + 16 - (intOf v15).toNat)
          case atStart => exact ⟨0, by omega, rfl, Lib.hid (by rw [Sw.cells_zero, List.append_nil]; exact HI2.out), HB2, hs2⟩
          case round =>
            obtain ⟨j, hj, rfl, HIj, HBj, hsj⟩ := hrel
            obtain ⟨i, hi⟩ : ∃ i, i = fr + j := ⟨_, rfl⟩
            rw [← hi]
            have HIJ := Lib.hid hi
            by_cases hj16 : j < 16
            · have hltj : (i : Int) < (fr : Int) + 16 := by omega
              have hib : i ≤ 40000 := by omega
              have c1 := ((HS1.out.box.below HBj.out HBb.out).cell0 1 (by simp [viewCells]))
              simp only [viewCells, List.getElem_cons_succ, List.getElem_cons_zero] at c1
              clear hi
              by_cases hat : i = at_
              · by_cases hin : i < s.length
                · have hq : decide ((i : Int) = (at_ : Int)) = true := decide_eq_true (by omega)
                  have hqb : ((i : Int) == (at_ : Int)) = true := beq_iff_eq.2 (by omega)
                  have hm : Sw.mark at_ i = 62 := if_pos hat
                  have hc : Sw.cell s at_ i = 62 :: Digits.two (s.getD i 0) := by unfold Sw.cell; rw [hm, if_pos hin]
                  have hii : (i : Int) < (s.length : Int) := by omega
                  have hcx : (bstr s).extract i (i + 1) = bstr [s.getD i 0] := by
                    apply ByteArray.ext
                    apply Array.ext'
                    rw [ByteArray.data_extract, Array.toList_extract]
                    show (s.drop i).take (i + 1 - i) = [s.getD i 0]
                    rw [show i + 1 - i = 1 by omega, List.drop_eq_getElem_cons hin, List.getD_eq_getElem?_getD, List.getElem?_eq_getElem hin]
                    rfl
                  have hx1 := fun w => Hex_any [s.getD i 0] w (by simp)
                  rw [show Digits.hex [s.getD i 0] = Digits.two (s.getD i 0) by simp [Digits.hex]] at hx1
                  have ht2 : (Digits.two (s.getD i 0)).length = 2 := rfl
                  generalize s.getD i 0 = x at *
                  generalize Digits.two x = X2 at *
                  have HX1 := Lib.hid hx1; have HT2 := Lib.hid ht2; have HC := Lib.hid hc
                  clear hat hm hc hx1 ht2
                  go_wp2_with fail
                  refine (WriteString_any Bb Bb _ [62] _ HIj.out (by have := HP8.out; simp [Sw.cells_length]; omega) (by omega)).mono ?_
                  rintro e w3 ⟨rfl, hi3, hb3, _⟩
                  have HI3 := Lib.hid hi3
                  have HB3 := Lib.hid (HBj.out.trans hb3)
                  have hs3 := hb3.size
                  have d0 := ((HS1.out.box.below HB3.out HBb.out).cell0 0 (by simp [viewCells]))
                  simp only [viewCells, List.getElem_cons_succ, List.getElem_cons_zero] at d0
                  clear hi3 hb3
                  go_wp2_with fail
                  refine (HX1.out _).mono ?_
                  rintro e w4 ⟨rfl, hb4⟩
                  have hi4 := HI3.out.below hb4
                  have hB4 := HB3.out.trans (hb4.mono (by omega))
                  have hs4 := hb4.size
                  have HI4 := Lib.hid hi4; have HB4 := Lib.hid hB4
                  clear hi4 hB4 hb4
                  go_wp2_with fail
                  refine (WriteString_any Bb Bb _ X2 _ HI4.out (by have := HP8.out; have := HT2.out; simp [Sw.cells_length]; omega) (by omega)).mono ?_
                  rintro e w5 ⟨rfl, hi5, hb5, _⟩
                  have HI5 := Lib.hid hi5; have HB5 := Lib.hid (HB4.out.trans hb5)
                  have hs5 := hb5.size
                  clear hi5 hb5
                  go_wp2_with fail
                  go_roundw
                  case rel => exact ⟨j + 1, by omega, congrArg (Value.int .i64) (by have := HIJ.out; omega), Lib.hid (by rw [Sw.cells_succ, ← HIJ.out, HC.out]; have := HI5.out; simpa [List.append_assoc] using this), HB5, by omega⟩
                  case measure => simp [intOf]; omega
                · have hq : decide ((i : Int) = (at_ : Int)) = true := decide_eq_true (by omega)
                  have hqb : ((i : Int) == (at_ : Int)) = true := beq_iff_eq.2 (by omega)
                  have hm : Sw.mark at_ i = 62 := if_pos hat
                  have hc : Sw.cell s at_ i = [62, 32, 32] := by unfold Sw.cell; rw [hm, if_neg hin]
                  have hii : ¬ (i : Int) < (s.length : Int) := by omega
                  have HC := Lib.hid hc
                  clear hat hm hc
                  go_wp2_with fail
                  refine (WriteString_any Bb Bb _ [62] _ HIj.out (by have := HP8.out; simp [Sw.cells_length]; omega) (by omega)).mono ?_
                  rintro e w3 ⟨rfl, hi3, hb3, _⟩
                  have HI3 := Lib.hid hi3
                  have HB3 := Lib.hid (HBj.out.trans hb3)
                  have hs3 := hb3.size
                  have d0 := ((HS1.out.box.below HB3.out HBb.out).cell0 0 (by simp [viewCells]))
                  simp only [viewCells, List.getElem_cons_succ, List.getElem_cons_zero] at d0
                  clear hi3 hb3
                  go_wp2_with fail
                  refine (WriteString_any Bb Bb _ [32, 32] _ HI3.out (by have := HP8.out; simp [Sw.cells_length]; omega) (by omega)).mono ?_
                  rintro e w5 ⟨rfl, hi5, hb5, _⟩
                  have HI5 := Lib.hid hi5; have HB5 := Lib.hid (HB3.out.trans hb5)
                  have hs5 := hb5.size
                  clear hi5 hb5
                  go_wp2_with fail
                  go_roundw
                  case rel => exact ⟨j + 1, by omega, congrArg (Value.int .i64) (by have := HIJ.out; omega), Lib.hid (by rw [Sw.cells_succ, ← HIJ.out, HC.out]; have := HI5.out; simpa [List.append_assoc] using this), HB5, by omega⟩
                  case measure => simp [intOf]; omega
              · by_cases hin : i < s.length
                · have hq : decide ((i : Int) = (at_ : Int)) = false := decide_eq_false (by omega)
                  have hqb : ((i : Int) == (at_ : Int)) = false := by rw [beq_eq_false_iff_ne]; omega
                  have hm : Sw.mark at_ i = 32 := if_neg hat
                  have hc : Sw.cell s at_ i = 32 :: Digits.two (s.getD i 0) := by unfold Sw.cell; rw [hm, if_pos hin]
                  have hii : (i : Int) < (s.length : Int) := by omega
                  have hcx : (bstr s).extract i (i + 1) = bstr [s.getD i 0] := by
                    apply ByteArray.ext
                    apply Array.ext'
                    rw [ByteArray.data_extract, Array.toList_extract]
                    show (s.drop i).take (i + 1 - i) = [s.getD i 0]
                    rw [show i + 1 - i = 1 by omega, List.drop_eq_getElem_cons hin, List.getD_eq_getElem?_getD, List.getElem?_eq_getElem hin]
                    rfl
                  have hx1 := fun w => Hex_any [s.getD i 0] w (by simp)
                  rw [show Digits.hex [s.getD i 0] = Digits.two (s.getD i 0) by simp [Digits.hex]] at hx1
                  have ht2 : (Digits.two (s.getD i 0)).length = 2 := rfl
                  generalize s.getD i 0 = x at *
                  generalize Digits.two x = X2 at *
                  have HX1 := Lib.hid hx1; have HT2 := Lib.hid ht2; have HC := Lib.hid hc
                  clear hat hm hc hx1 ht2
                  go_wp2_with fail
                  refine (WriteString_any Bb Bb _ [32] _ HIj.out (by have := HP8.out; simp [Sw.cells_length]; omega) (by omega)).mono ?_
                  rintro e w3 ⟨rfl, hi3, hb3, _⟩
                  have HI3 := Lib.hid hi3
                  have HB3 := Lib.hid (HBj.out.trans hb3)
                  have hs3 := hb3.size
                  have d0 := ((HS1.out.box.below HB3.out HBb.out).cell0 0 (by simp [viewCells]))
                  simp only [viewCells, List.getElem_cons_succ, List.getElem_cons_zero] at d0
                  clear hi3 hb3
                  go_wp2_with fail
                  refine (HX1.out _).mono ?_
                  rintro e w4 ⟨rfl, hb4⟩
                  have hi4 := HI3.out.below hb4
                  have hB4 := HB3.out.trans (hb4.mono (by omega))
                  have hs4 := hb4.size
                  have HI4 := Lib.hid hi4; have HB4 := Lib.hid hB4
                  clear hi4 hB4 hb4
                  go_wp2_with fail
                  refine (WriteString_any Bb Bb _ X2 _ HI4.out (by have := HP8.out; have := HT2.out; simp [Sw.cells_length]; omega) (by omega)).mono ?_
                  rintro e w5 ⟨rfl, hi5, hb5, _⟩
                  have HI5 := Lib.hid hi5; have HB5 := Lib.hid (HB4.out.trans hb5)
                  have hs5 := hb5.size
                  clear hi5 hb5
                  go_wp2_with fail
                  go_roundw
                  case rel => exact ⟨j + 1, by omega, congrArg (Value.int .i64) (by have := HIJ.out; omega), Lib.hid (by rw [Sw.cells_succ, ← HIJ.out, HC.out]; have := HI5.out; simpa [List.append_assoc] using this), HB5, by omega⟩
                  case measure => simp [intOf]; omega
                · have hq : decide ((i : Int) = (at_ : Int)) = false := decide_eq_false (by omega)
                  have hqb : ((i : Int) == (at_ : Int)) = false := by rw [beq_eq_false_iff_ne]; omega
                  have hm : Sw.mark at_ i = 32 := if_neg hat
                  have hc : Sw.cell s at_ i = [32, 32, 32] := by unfold Sw.cell; rw [hm, if_neg hin]
                  have hii : ¬ (i : Int) < (s.length : Int) := by omega
                  have HC := Lib.hid hc
                  clear hat hm hc
                  go_wp2_with fail
                  refine (WriteString_any Bb Bb _ [32] _ HIj.out (by have := HP8.out; simp [Sw.cells_length]; omega) (by omega)).mono ?_
                  rintro e w3 ⟨rfl, hi3, hb3, _⟩
                  have HI3 := Lib.hid hi3
                  have HB3 := Lib.hid (HBj.out.trans hb3)
                  have hs3 := hb3.size
                  have d0 := ((HS1.out.box.below HB3.out HBb.out).cell0 0 (by simp [viewCells]))
                  simp only [viewCells, List.getElem_cons_succ, List.getElem_cons_zero] at d0
                  clear hi3 hb3
                  go_wp2_with fail
                  refine (WriteString_any Bb Bb _ [32, 32] _ HI3.out (by have := HP8.out; simp [Sw.cells_length]; omega) (by omega)).mono ?_
                  rintro e w5 ⟨rfl, hi5, hb5, _⟩
                  have HI5 := Lib.hid hi5; have HB5 := Lib.hid (HB3.out.trans hb5)
                  have hs5 := hb5.size
                  clear hi5 hb5
                  go_wp2_with fail
                  go_roundw
                  case rel => exact ⟨j + 1, by omega, congrArg (Value.int .i64) (by have := HIJ.out; omega), Lib.hid (by rw [Sw.cells_succ, ← HIJ.out, HC.out]; have := HI5.out; simpa [List.append_assoc] using this), HB5, by omega⟩
                  case measure => simp [intOf]; omega
            · have hltj : ¬ (i : Int) < (fr : Int) + 16 := by omega
              obtain rfl : j = 16 := by omega
              clear hi
              have c0 := ((HS1.out.box.below HBj.out HBb.out).cell0 0 (by simp [viewCells]))
              simp only [viewCells, List.getElem_cons_zero] at c0
              obtain ⟨Lb, hLb⟩ : ∃ Lb, Lb = P8 ++ Sw.cells s at_ fr 16 := ⟨_, rfl⟩
              obtain ⟨A1, hA1⟩ : ∃ A1, A1 = min fr s.length := ⟨_, rfl⟩
              obtain ⟨A2, hA2⟩ : ∃ A2, A2 = min (fr + 16) s.length := ⟨_, rfl⟩
              obtain ⟨SR, hSR⟩ : ∃ SR, SR = Xx.shown ((s.drop A1).take (A2 - A1)) := ⟨_, rfl⟩
              have hm1 : min (fr : Int) (s.length : Int) = (A1 : Int) := by rw [hA1]; omega
              have hm2 : min ((fr : Int) + 16) (s.length : Int) = (A2 : Int) := by rw [hA2]; omega
              have h12 : A1 ≤ A2 := by rw [hA1, hA2]; omega
              have h2s : A2 ≤ s.length := by rw [hA2]; omega
              have hcx : (bstr s).extract A1 A2 = bstr ((s.drop A1).take (A2 - A1)) := by
                apply ByteArray.ext
                apply Array.ext'
                rw [ByteArray.data_extract, Array.toList_extract]
                rfl
              have hshn := fun V => Shown_any ((s.drop A1).take (A2 - A1)) V (by rw [List.length_take]; omega)
              have hrow : P8 ++ Sw.cells s at_ fr 16 ++ [32] ++ Xx.shown ((s.drop (min fr s.length)).take (min (fr + 16) s.length - min fr s.length)) = Lb ++ [32] ++ SR := by rw [hLb, hSR, hA1, hA2]
              rw [hrow] at HSU
              have hIL := HIj.out
              rw [← hLb] at hIL
              have hLl : Lb.length = 56 := by rw [hLb, List.length_append, Sw.cells_length]; have := HP8.out; omega
              have hSRl : SR.length ≤ 16 := by rw [hSR, Xx.shown, List.length_map, List.length_take]; omega
              rw [← hSR] at hshn
              generalize (s.drop A1).take (A2 - A1) = R0 at *
              obtain ⟨U1, hU1⟩ : ∃ U1, bstr Lb ++ { data := #[32] } = U1 := ⟨_, rfl⟩
              obtain ⟨U2, hU2⟩ : ∃ U2, U1 ++ bstr SR = U2 := ⟨_, rfl⟩
              have hUU : U2 = bstr (Lb ++ [32] ++ SR) := by
                rw [← hU2, ← hU1, show ({ data := #[32] } : ByteArray) = bstr [32] from rfl, bstr_append, bstr_append]
              have hU1s : U1.size = 57 := by
                rw [← hU1, show ({ data := #[32] } : ByteArray) = bstr [32] from rfl, bstr_append, bstr_size]
                simp [hLl]
              have q7 : ¬ 9223372036854775807 < Lb.length + 1 := by omega
              have q8 : ¬ 9223372036854775807 < U1.size + SR.length := by omega
              have q9 : ¬ 9223372036854775807 < 57 + SR.length := by omega
              have hBw := HBE.out
              have hRS : RS B Bb s Lb w1 wr := ⟨c0, Lib.IsBuilderF.of hIL, HBj.out, hsj⟩
              have hstr : ∀ V, RS B Bb s Lb w1 V → Calls Tryd.prog 55 #[.pointer (some ⟨Bb, 0, none⟩)] V fun e w' => e = .returned (.string (bstr Lb)) ∧ RS B Bb s Lb w1 w' := fun V h => (Tryd.Builder_String_any_k Bb Bb Lb V h.bd (Nat.le_of_lt h.sz)).mono fun e w' ⟨e1, e2, e3, _⟩ => ⟨e1, h.up HBb.out e2 e3⟩
              have hsho : ∀ V, RS B Bb s Lb w1 V → Calls Tryd.prog 74 #[.string (bstr R0)] V fun e w' => e = .returned (.string (bstr SR)) ∧ RS B Bb s Lb w1 w' := fun V h => (hshn V).mono fun e w' ⟨e1, e2⟩ => ⟨e1, h.up HBb.out (h.bd.below e2) (e2.mono (Nat.le_of_lt h.sz))⟩
              have hall : ∀ V ob, RS B Bb s Lb w1 V → RS B Bb s Lb w1 (V.alloc ob) := fun V ob h => h.up HBb.out (h.bd.alloc ob) ((Below.refl _ _).alloc (Nat.le_of_lt h.sz) ob)
              have hdr : ∀ V, RS B Bb s Lb w1 V → RS B Bb s Lb w1 V.drew := fun V h => ⟨h.c0, h.bd, h.bel.drew, h.sz⟩
              have hown1 : ∀ V, RS B Bb s Lb w1 V → Owns V (B + 1) 9 1 a k cap (strVals L) ∧ B + 1 ≤ V.heap.size := fun V h => ⟨HS1.out.own.below h.bel (Nat.le_of_eq hBw.symm), by have := HS1.out.sz; have := h.bel.size; omega⟩
              have hm1 : k + 1 ≤ maxLen := by unfold maxLen; omega
              have hm2 : (k + 1) * 16 ≤ 140737488355328 := by omega
              have hm3 : ∀ (V : World) (ob : Obj), RS B Bb s Lb w1 V → B + 1 ≤ (V.alloc ob).heap.size := fun V ob h => by
                have h1 := h.sz; have h2 := HBb.out
                rw [World.size_alloc]
                exact Nat.le_succ_of_le (Nat.le_of_lt (Nat.lt_of_le_of_lt h2 h1))
              have HM1 := Lib.hid hm1; have HM2 := Lib.hid hm2; have HM3 := Lib.hid hm3
              clear hm1 hm2 hm3
              have z0 : IntKind.i64.wrap ((fr : Int) + 16) = (fr : Int) + 16 := IntWalk.i64_in _ ⟨by omega, by omega⟩
              have z1 : (0 : Int) ≤ (A1 : Int) := by omega
              have z2 : (A1 : Int) ≤ (A2 : Int) := by omega
              have z3 : (A2 : Int) ≤ (s.length : Int) := by omega
              have z4 : (0 : Int) ≤ (A2 : Int) := by omega
              have hpu : ∀ V w4, RS B Bb s Lb w1 V → V.grownBy w4 (blk a) → w4.cell? ⟨B, 0, none⟩ = some (.string (bstr s)) := fun V w4 h hg => by
                have ho := (HS1.out.own.below h.bel (Nat.le_of_eq hBw.symm))
                have hlt : B < V.heap.size := by have := h.sz; have := HBb.out; omega
                refine (hg.cell_far ⟨B, 0, none⟩ hlt ?_).trans h.c0
                intro e
                cases a with
                | none => simp [blk] at e
                | some y => have := ho.lt; simp [blk] at e; omega
              have HPU := Lib.hid hpu
              have HSTR := Lib.hid hstr; have HSHO := Lib.hid hsho; have HALL := Lib.hid hall; have HOW := Lib.hid hown1; have HRS := Lib.hid hRS; have HDR := Lib.hid hdr
              have HUU := Lib.hid hUU
              clear hpu hLb hA1 hA2 hSR hshn hrow hIL hUU hRS hstr hsho hall hown1 hdr hBw
              go_wp2_with fail
              go_region_held3 (fun V => V.cell? ⟨B, 0, none⟩ = some (.string (bstr s)))
                (first
                  | with_reducible exact HRS.out.c0
                  | with_reducible exact (HDR.out _ HRS.out).c0
                  | with_reducible exact h9.c0
                  | with_reducible exact (HALL.out _ _ h9).c0
                  | with_reducible exact hc4)
                (first
                  | (go_at_call 55; (with_reducible refine (HSTR.out _ ?_).mono ?_); (next => first | with_reducible exact HRS.out | with_reducible exact HDR.out _ HRS.out | with_reducible exact h9); (rintro e w9 ⟨rfl, h9⟩))
                  | (go_at_call 74; (with_reducible refine (HSHO.out _ ?_).mono ?_); (next => first | with_reducible exact HRS.out | with_reducible exact HDR.out _ HRS.out | with_reducible exact h9); (rintro e w9 ⟨rfl, h9⟩))
                  | ((with_reducible refine at_app ?_); refine step_pushN _ (by rfl) _ _ 56 (by rfl) (B + 1) 9 (.string ByteArray.empty) 1 16 Tryd.underlying56 infoStr rfl (by decide) a k cap _ (by rfl) ((HOW.out _ h9).1.alloc _) _ 1 1 (by decide) [.string U2] rfl (by simp [Value.oneCell']) (by rfl) (RowAt.new _ 9 #[.string U2]) HM1.out HM2.out (HM3.out _ _ h9) ?_; intro a' cap' w4 hown4 hgrow4 hloc4 hex4; have hc4 := HPU.out _ _ (HALL.out _ _ h9) hgrow4))
              all_goals
                have hln := HS1.out.line (HBE.out ▸ h9.bel) (HUU.out ▸ hown4) hgrow4
                rw [← HSU.out] at hln
                have HLN := Lib.hid hln
                clear hln hown4 hgrow4 hloc4 hex4 hc4 h9
                go_wp2_with fail
                refine ⟨⟨k + 1, a', cap', by omega, rfl, by rw [HRK.out], HLN⟩, ?_⟩
                simp [intOf]
                omega
    · obtain rfl : k = rows := by omega
      have hd : ¬ (r : Int) < (f0 : Int) + (k : Int) := by omega
      have ho := HS.out.own; have hbl := HS.out.bel
      go_wp2_with fail
      go_ret2
      rw [HB0.out]
      exact ⟨a, cap, rfl, ho, hbl⟩
end Go.Proofs.YtnmbakibiaedhaaDoor
