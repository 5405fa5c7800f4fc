/- Contract of package diff: Apply, to edits that fit. -/
import Derived.Test.YtmmkbjinkdgdbaaDiffF
namespace Go.Proofs.Ytmmkbjinkdgdbaa
open Go.RowKit
set_option linter.unusedVariables false
set_option linter.unusedSimpArgs false
namespace Diff
/-- on the way through edits -/
structure Mid (a : List UInt8) (l : List Ed) (k : Nat) (s x : List UInt8) : Prop where
  eq : s ++ run x (l.drop k) = run a l
  all : tot (l.drop k) = x.length
theorem Mid.start (a : List UInt8) (l : List Ed) (h : tot l = a.length) : Mid a l 0 [] a := ⟨by simp, by simpa using h⟩
theorem Mid.keep {a : List UInt8} {l : List Ed} {k : Nat} {s x : List UInt8} {e : Ed} (h : Mid a l k s x) (hd : l.drop k = e :: l.drop (k + 1)) (hw : e.what = 1) : Mid a l (k + 1) (s ++ x.take e.n) (x.drop e.n) := by
  obtain ⟨h1, h2⟩ := h
  rw [hd] at h1 h2
  rw [tot_cons] at h2
  refine ⟨?_, by rw [List.length_drop]; omega⟩
  rw [run, if_pos hw] at h1
  rw [List.append_assoc]; exact h1
theorem Mid.take {a : List UInt8} {l : List Ed} {k : Nat} {s x : List UInt8} {e : Ed} (h : Mid a l k s x) (hd : l.drop k = e :: l.drop (k + 1)) (hw : e.what = 2) : Mid a l (k + 1) s (x.drop e.n) := by
  obtain ⟨h1, h2⟩ := h
  rw [hd] at h1 h2
  rw [tot_cons] at h2
  refine ⟨?_, by rw [List.length_drop]; omega⟩
  rw [run, if_neg (by omega), if_pos hw] at h1
  exact h1
theorem Mid.give {a : List UInt8} {l : List Ed} {k : Nat} {s x : List UInt8} {e : Ed} (h : Mid a l k s x) (hd : l.drop k = e :: l.drop (k + 1)) (hw : e.what = 3) (hn : e.n = 0) : Mid a l (k + 1) (s ++ e.text) x := by
  obtain ⟨h1, h2⟩ := h
  rw [hd] at h1 h2
  rw [tot_cons] at h2
  refine ⟨?_, by omega⟩
  rw [run, if_neg (by omega), if_neg (by omega)] at h1
  rw [List.append_assoc]; exact h1
theorem Mid.fits {a : List UInt8} {l : List Ed} {k : Nat} {s x : List UInt8} {e : Ed} (h : Mid a l k s x) (hd : l.drop k = e :: l.drop (k + 1)) : e.n ≤ x.length := by
  have := h.all
  rw [hd, tot_cons] at this
  omega
theorem Mid.short {a : List UInt8} {l : List Ed} {k : Nat} {s x : List UInt8} (h : Mid a l k s x) : s.length ≤ (run a l).length := by
  rw [← h.eq, List.length_append]; omega
end Diff
/-- in a round: the box of an edit, the builder -/
structure EW (B4 bx : Nat) (z : Diff.Ed) (s : List UInt8) (w4 w : World) : Prop where
  box : RowAt w bx 0 99 (Diff.edCells z)
  isb : IsB B4 B4 s w
  bel : Below B4 w4 w
  hi : B4 < bx
  size : B4 ≤ w.heap.size
theorem EW.start {B4 : Nat} {s : List UInt8} {w4 wr : World} (e : Diff.Ed) (hsz : B4 ≤ wr.heap.size) (hb : Below B4 w4 wr) (hs : IsB B4 B4 s wr) : EW B4 wr.heap.size e s w4 (wr.alloc (.cells #[.int .i64 (e.what : Nat), .int .i64 (e.n : Nat), .string (bstr e.text)] 99)) :=
  ⟨RowAt.new wr 99 #[.int .i64 (e.what : Nat), .int .i64 (e.n : Nat), .string (bstr e.text)], hs.below ((Below.refl _ _).alloc (Nat.le_refl _) _), hb.alloc hsz _, hs.lt, by simp; omega⟩
theorem EW.cells {B4 bx : Nat} {z : Diff.Ed} {s : List UInt8} {w4 w : World} (h : EW B4 bx z s w4 w) : w.cell? ⟨bx, 0, none⟩ = some (.int .i64 (z.what : Nat)) ∧ w.cell? ⟨bx, 1, none⟩ = some (.int .i64 (z.n : Nat)) ∧ w.cell? ⟨bx, 2, none⟩ = some (.string (bstr z.text)) :=
  ⟨h.box.cell0 0 (by simp [Diff.edCells]), h.box.cell0 1 (by simp [Diff.edCells]), h.box.cell0 2 (by simp [Diff.edCells])⟩
theorem EW.write {B4 bx : Nat} {z : Diff.Ed} {s t : List UInt8} {w4 w w' : World} (h : EW B4 bx z s w4 w) (h1 : IsB B4 B4 t w') (h2 : Below B4 w w') (h3 : ∀ (g off : Nat) (e : TypeId) (xs : List Value), g ≠ B4 → e ≠ 5 → RowAt w g off e xs → RowAt w' g off e xs) : EW B4 bx z t w4 w' :=
  ⟨h3 _ _ _ _ (by have := h.hi; omega) (by decide) h.box, h1, h.bel.trans (h2.mono (Nat.le_refl _)), h.hi, Nat.le_trans h.size h2.size⟩
theorem Bd.len (B b : Nat) (l : List UInt8) (w : World) (h : IsB B b l w) :
    Calls Try.prog 87 #[.pointer (some ⟨b, 0, none⟩)] w fun e w' => e = .returned (.int .i64 l.length) ∧ w = w' := by
  refine (Try.Builder_Len B b (Lib.byteCells l) w h).mono ?_
  rintro e w1 ⟨rfl, rfl⟩
  exact ⟨by rw [byteCells_length], rfl⟩
theorem bstr_front (x : List UInt8) (n : Nat) : (bstr x).extract 0 n = bstr (x.take n) := by
  rw [bstr_sub]; simp [Diff.sub]
theorem bstr_rest (x : List UInt8) (n : Nat) : (bstr x).extract n x.length = bstr (x.drop n) := by
  rw [bstr_sub, Diff.sub_end]
set_option maxHeartbeats 2000000 in
set_option maxRecDepth 100000 in
theorem Apply_ok (x : Option Addr) (n cap B' : Nat) (l : List Diff.Ed) (a : List UInt8) (w : World) (hl : Owns w B' 99 3 x n cap (Diff.edsCells l)) (hln : l.length = n) (hn : n ≤ 4000) (hf : ∀ f ∈ l, Diff.Fine f) (ht : Diff.tot l = a.length) (ha : a.length ≤ 4000) (hr : (Diff.run a l).length ≤ 4000) :
    Calls Try.prog 54 #[.string (bstr a), .slice x n cap] w fun r w' => r = .returned (.tuple #[.string (bstr (Diff.run a l)), .nilIface]) ∧ Below w.heap.size w w' := by
  obtain ⟨B, hB⟩ : ∃ B, B = w.heap.size := ⟨_, rfl⟩
  have hfr := IsB.fresh w
  have hlo := hl.blk_lt
  rw [← hB] at hlo hfr ⊢
  have HB := Lib.hid hB; clear hB
  have HL := Lib.hid hl; clear hl
  have HFN := Lib.hid hf; clear hf
  have HLO := Lib.hid hlo; clear hlo
  have HM0 := Lib.hid (Diff.Mid.start a l ht); clear ht
  have HFR := Lib.hid hfr; clear hfr
  have hb5 : Below B w (w.alloc (.cells #[.pointer none, .slice none 0 0] 136)) := (Below.refl _ _).alloc (by rw [HB.out]; exact Nat.le_refl _) _
  go_enter Try.func54, Try.ntmps54
  go_wp2_with fail
  rw [← HB.out]
  go_loopw [0, 11] (fun v0 v11 wr => ∃ (k : Nat) (s y : List UInt8), k ≤ n ∧ v11 = .int .i64 k ∧ v0 = .string (bstr y) ∧ Hid (IsB B B s wr) ∧ Hid (Diff.Mid a l k s y) ∧ y.length ≤ 4000 ∧ Below B w wr) (fun _ v11 _ => n - (intOf v11).toNat)
  case atStart => exact ⟨0, [], a, by omega, rfl, rfl, HFR, HM0, ha, hb5⟩
  case round =>
    clear HM0 HFR hb5
    obtain ⟨k, s, y, hk, rfl, rfl, HS, HM, hy, hbe⟩ := hrel
    have hbB : B ≤ wr.heap.size := by have := hbe.size; have := HB.out; omega
    have hs4 : s.length ≤ 4000 := by have := HM.out.short; omega
    by_cases hkn : k < n
    · cases x with
      | none => exfalso; have := HL.out.of_none; omega
      | some x =>
        have hown := HL.out.belowLt hbe HLO.out
        obtain ⟨e1, e2, e3, e4, e5⟩ := hown.row
        rw [e1]
        have hxb := HLO.out x rfl
        clear hown e1 e2 e3 e4
        generalize x.block = gl at *
        have hd : l.drop k = l[k]'(by omega) :: l.drop (k + 1) := List.drop_eq_getElem_cons (by omega)
        have hfe := HFN.out (l[k]'(by omega)) (List.getElem_mem _)
        have hsplit : Diff.edsCells l = Diff.edsCells (l.take k) ++ (Diff.edCells (l[k]'(by omega)) ++ Diff.edsCells (l.drop (k + 1))) := by
          conv => lhs; rw [← List.take_append_drop k l, hd]
          rw [Diff.edsCells_append]
          rfl
        have htl : (Diff.edsCells (l.take k)).length = k * 3 := by rw [Diff.edsCells_length, List.length_take]; congr 1; omega
        rw [hsplit] at e5
        clear hsplit
        generalize l[k]'(by omega) = e at *
        have hlen : 3 ≤ (Diff.edCells e ++ Diff.edsCells (l.drop (k + 1))).length := by simp [Diff.edCells]
        have c0 := e5.cell0 (k * 3) (by rw [List.length_append]; omega)
        have c1 := e5.cell0 (k * 3 + 1) (by rw [List.length_append]; omega)
        have c2 := e5.cell0 (k * 3 + 2) (by rw [List.length_append]; omega)
        rw [List.getElem_append_right (by omega), List.getElem_append_left (by simp [Diff.edCells]; omega)] at c0 c1 c2
        simp only [htl, Nat.sub_self, Nat.add_sub_cancel_left, Diff.edCells, List.getElem_cons_zero, List.getElem_cons_succ] at c0 c1 c2
        clear e5 htl hlen
        have HD := Lib.hid hd; clear hd
        rcases hfe with ⟨hw, hz⟩ | ⟨hw, hz⟩ | ⟨hw, hz⟩
        · obtain ⟨en, et, rfl⟩ : ∃ en et, e = ⟨1, en, et⟩ := ⟨e.n, e.text, by cases e; simp only [] at hw; subst hw; rfl⟩
          change wr.cell? _ = some (.int .i64 1) at c0
          change wr.cell? _ = some (.int .i64 (en : Nat)) at c1
          change wr.cell? _ = some (.string (bstr et)) at c2
          have hfit : en ≤ y.length := HM.out.fits HD.out
          have HBW : Hid (EW B wr.heap.size ⟨1, en, et⟩ s w (wr.alloc (.cells #[.int .i64 1, .int .i64 (en : Nat), .string (bstr et)] 99))) := Lib.hid (EW.start ⟨1, en, et⟩ hbB hbe HS.out)
          have hkI : (k : Int) < (n : Int) := by omega
          have hnn : decide ((en : Int) < 0) = false := by rw [decide_eq_false_iff_not]; omega
          have hnp : ¬ (en : Int) < 0 := by omega
          have hfI : decide ((y.length : Int) < (en : Int)) = false := by rw [decide_eq_false_iff_not]; omega
          have hfN : decide (y.length < en) = false := by rw [decide_eq_false_iff_not]; omega
          have hfL : (en : Int) ≤ (y.length : Int) := by omega
          have hx1 := bstr_front y en
          have hx2 := bstr_rest y en
          have hyd : (y.drop en).length ≤ 4000 := by rw [List.length_drop]; omega
          have hyt : (y.take en).length ≤ 4000 := by rw [List.length_take]; omega
          clear hz
          have HM2 : Hid (Diff.Mid a l (k + 1) (s ++ y.take en) (y.drop en)) := Lib.hid (HM.out.keep HD.out rfl)
          go_wp2_with fail
          refine (WriteString_any B B s (y.take en) _ HBW.out.isb (by omega) HBW.out.size).mono ?_
          rintro e w10 ⟨rfl, his, hb10, hkeep⟩
          have HBY := Lib.hid (HBW.out.write his hb10 hkeep)
          clear his hb10 hkeep
          have k0 : w10.cell? ⟨wr.heap.size, 0, none⟩ = some (.int .i64 1) := HBY.out.cells.1
          have k1 : w10.cell? ⟨wr.heap.size, 1, none⟩ = some (.int .i64 (en : Nat)) := HBY.out.cells.2.1
          go_wp2_with fail
          go_roundw
          case rel => exact ⟨k + 1, _, _, by omega, by go_num, rfl, Lib.hid HBY.out.isb, HM2, hyd, HBY.out.bel⟩
          case measure => simp [intOf]; omega
        · obtain ⟨en, et, rfl⟩ : ∃ en et, e = ⟨2, en, et⟩ := ⟨e.n, e.text, by cases e; simp only [] at hw; subst hw; rfl⟩
          change wr.cell? _ = some (.int .i64 2) at c0
          change wr.cell? _ = some (.int .i64 (en : Nat)) at c1
          change wr.cell? _ = some (.string (bstr et)) at c2
          have hfit : en ≤ y.length := HM.out.fits HD.out
          have HBW : Hid (EW B wr.heap.size ⟨2, en, et⟩ s w (wr.alloc (.cells #[.int .i64 2, .int .i64 (en : Nat), .string (bstr et)] 99))) := Lib.hid (EW.start ⟨2, en, et⟩ hbB hbe HS.out)
          have hkI : (k : Int) < (n : Int) := by omega
          have hnn : decide ((en : Int) < 0) = false := by rw [decide_eq_false_iff_not]; omega
          have hnp : ¬ (en : Int) < 0 := by omega
          have hfI : decide ((y.length : Int) < (en : Int)) = false := by rw [decide_eq_false_iff_not]; omega
          have hfN : decide (y.length < en) = false := by rw [decide_eq_false_iff_not]; omega
          have hfL : (en : Int) ≤ (y.length : Int) := by omega
          have hx1 := bstr_front y en
          have hx2 := bstr_rest y en
          have hyd : (y.drop en).length ≤ 4000 := by rw [List.length_drop]; omega
          have hyt : (y.take en).length ≤ 4000 := by rw [List.length_take]; omega
          clear hz
          have HM2 : Hid (Diff.Mid a l (k + 1) s (y.drop en)) := Lib.hid (HM.out.take HD.out rfl)
          go_wp2_with fail
          go_roundw
          case rel => exact ⟨k + 1, s, y.drop en, by omega, by go_num, rfl, Lib.hid HBW.out.isb, HM2, hyd, HBW.out.bel⟩
          case measure => simp [intOf]; omega
        · obtain ⟨en, et, rfl⟩ : ∃ en et, e = ⟨3, en, et⟩ := ⟨e.n, e.text, by cases e; simp only [] at hw; subst hw; rfl⟩
          change wr.cell? _ = some (.int .i64 3) at c0
          change wr.cell? _ = some (.int .i64 (en : Nat)) at c1
          change wr.cell? _ = some (.string (bstr et)) at c2
          have hfit : en ≤ y.length := HM.out.fits HD.out
          have HBW : Hid (EW B wr.heap.size ⟨3, en, et⟩ s w (wr.alloc (.cells #[.int .i64 3, .int .i64 (en : Nat), .string (bstr et)] 99))) := Lib.hid (EW.start ⟨3, en, et⟩ hbB hbe HS.out)
          have hkI : (k : Int) < (n : Int) := by omega
          have hnn : decide ((en : Int) < 0) = false := by rw [decide_eq_false_iff_not]; omega
          have hnp : ¬ (en : Int) < 0 := by omega
          have hfI : decide ((y.length : Int) < (en : Int)) = false := by rw [decide_eq_false_iff_not]; omega
          have hfN : decide (y.length < en) = false := by rw [decide_eq_false_iff_not]; omega
          have hfL : (en : Int) ≤ (y.length : Int) := by omega
          have hx1 := bstr_front y en
          have hx2 := bstr_rest y en
          have hyd : (y.drop en).length ≤ 4000 := by rw [List.length_drop]; omega
          have hyt : (y.take en).length ≤ 4000 := by rw [List.length_take]; omega
          have hn0 : en = 0 := hz
          have het : et.length ≤ 4000 := by have h := (HM.out.give HD.out rfl hn0).short; rw [List.length_append] at h; simp only [] at h; omega
          have HM2 : Hid (Diff.Mid a l (k + 1) (s ++ et) y) := Lib.hid (HM.out.give HD.out rfl hn0)
          subst hn0
          have HBW : Hid (EW B wr.heap.size ⟨3, 0, et⟩ s w (wr.alloc (.cells #[.int .i64 3, .int .i64 0, .string (bstr et)] 99))) := HBW
          go_wp2_with fail
          refine (WriteString_any B B s et _ HBW.out.isb (by omega) HBW.out.size).mono ?_
          rintro e w10 ⟨rfl, his, hb10, hkeep⟩
          have HBY := Lib.hid (HBW.out.write his hb10 hkeep)
          clear his hb10 hkeep
          have k0 : w10.cell? ⟨wr.heap.size, 0, none⟩ = some (.int .i64 3) := HBY.out.cells.1
          have k1 : w10.cell? ⟨wr.heap.size, 1, none⟩ = some (.int .i64 0) := HBY.out.cells.2.1
          go_wp2_with fail
          go_roundw
          case rel => exact ⟨k + 1, _, _, by omega, by go_num, rfl, Lib.hid HBY.out.isb, HM2, hy, HBY.out.bel⟩
          case measure => simp [intOf]; omega
    · obtain rfl : k = n := by omega
      have hd : decide ((k : Int) < (k : Int)) = false := by simp
      have he := HM.out.eq
      have hal := HM.out.all
      rw [List.drop_eq_nil_of_le (by omega)] at he hal
      have hy0 : y = [] := List.length_eq_zero_iff.1 (by rw [← hal]; rfl)
      subst hy0
      rw [Diff.run, List.append_nil] at he
      have HE := Lib.hid he; clear he
      have hsI : decide ((4000 : Int) < (s.length : Int)) = false := by rw [decide_eq_false_iff_not]; omega
      have hsN : decide (4000 < s.length) = false := by rw [decide_eq_false_iff_not]; omega
      go_wp2_with fail
      refine (Bd.len B B s _ HS.out).mono ?_
      rintro e w2 ⟨rfl, rfl⟩
      go_wp2_with fail
      refine (Bd.string B B s _ HS.out hbB).mono ?_
      rintro e w3 ⟨rfl, hb3⟩
      go_wp2_with fail
      go_ret2
      exact ⟨by rw [← HE.out]; rfl, hbe.trans (hb3.mono (Nat.le_refl _))⟩
end Go.Proofs.Ytmmkbjinkdgdbaa
