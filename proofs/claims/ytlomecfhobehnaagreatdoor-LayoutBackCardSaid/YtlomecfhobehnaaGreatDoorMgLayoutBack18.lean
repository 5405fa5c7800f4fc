/- What tmpl.item holds: the reader, the result's box, the item's box. -/
import Derived.Test.YtlomecfhobehnaaGreatDoorChecked
import Derived.Test.YtlomecfhobehnaaGreatDoorMgLayoutBack17
import Derived.Test.YtlomecfhobehnaaGreatDoorMgLayoutBack16
import Derived.Test.YtlomecfhobehnaaGreatDoorMgLayoutBack4
import Derived.Test.YtlomecfhobehnaaGreatDoorMgLayoutBack14
section
/- layout's reader: node. -/
namespace Go.Proofs.YtlomecfhobehnaaGreatDoor
open Go Go.RowKit
set_option linter.unusedVariables false
set_option linter.unusedSimpArgs false
open Rd
open Ly
/-- a result's box of seven cells, stored -/
abbrev st7 (w : World) (b : Nat) (v0 v1 v2 v3 v4 v5 v6 : Value) : World :=
  (((((((w.setCell ⟨b, 0, none⟩ v0).setCell ⟨b, 1, none⟩ v1).setCell ⟨b, 2, none⟩ v2).setCell ⟨b, 3, none⟩ v3).setCell ⟨b, 4, none⟩ v4).setCell ⟨b, 5, none⟩ v5).setCell ⟨b, 6, none⟩ v6)
theorem st7_row {w : World} {b : Nat} {T : TypeId} {ys : List Value} (h : RowAt w b 0 T ys) (hy : ys.length = 7) (v0 v1 v2 v3 v4 v5 v6 : Value) : RowAt (st7 w b v0 v1 v2 v3 v4 v5 v6) b 0 T [v0, v1, v2, v3, v4, v5, v6] := by
  match ys, hy with
  | [a0, a1, a2, a3, a4, a5, a6], _ =>
    exact ((((((h.set0 0 (by simp) v0).set0 1 (by simp) v1).set0 2 (by simp) v2).set0 3 (by simp) v3).set0 4 (by simp) v4).set0 5 (by simp) v5).set0 6 (by simp) v6
theorem st7_far {w : World} {b : Nat} (v0 v1 v2 v3 v4 v5 v6 : Value) (g : Nat) (hg : g ≠ b) : (st7 w b v0 v1 v2 v3 v4 v5 v6).heap[g]? = w.heap[g]? := by
  have k : ∀ (W : World) (i : Nat) (v : Value), (W.setCell ⟨b, i, none⟩ v).heap[g]? = W.heap[g]? := fun W i v => Below.heap_setCell W ⟨b, i, none⟩ v g hg
  unfold st7
  iterate 7 rw [k]
theorem st7_size {w : World} {b : Nat} (v0 v1 v2 v3 v4 v5 v6 : Value) : (st7 w b v0 v1 v2 v3 v4 v5 v6).heap.size = w.heap.size := by
  unfold st7
  simp only [World.size_setCell]
theorem but_setX {w0 w : World} {r : Nat} {m : Option Nat} (h : But w0 w r m) {b : Nat} (hb : w0.heap.size ≤ b) (i : Nat) (v : Value) : But w0 (w.setCell ⟨b, i, none⟩ v) r m := by
  have hz : (w.setCell ⟨b, i, none⟩ v).heap.size = w.heap.size := World.size_setCell ..
  refine ⟨h.os, h.tape, h.output, by rw [hz]; exact h.size, fun k hk h1 h2 => ?_⟩
  exact (Below.heap_setCell w ⟨b, i, none⟩ v k (show k ≠ b by omega)).trans (h.block k hk h1 h2)
theorem st7_but {w0 w : World} {b : Nat} (v0 v1 v2 v3 v4 v5 v6 : Value) {r : Nat} {m : Option Nat} (h : But w0 w r m) (hb : w0.heap.size ≤ b) : But w0 (st7 w b v0 v1 v2 v3 v4 v5 v6) r m :=
  but_setX (but_setX (but_setX (but_setX (but_setX (but_setX (but_setX h hb 0 v0) hb 1 v1) hb 2 v2) hb 3 v3) hb 4 v4) hb 5 v5) hb 6 v6
/-- how node ends -/
def NodOut (w : World) (b : Nat) (F : Value) (s nm : Tm.Wd) (kd : Nat) (st : St) (e : Ending) (w' : World) : Prop := But w w' b none ∧ match nod st with
  | some st1 => e = .returned (.agg (ndCells nm kd st.at_ 0 0 [] (.slice none 0 0)).toArray) ∧ LR w' b F s st1
  | none => LBad e
set_option maxRecDepth 100000 in
set_option maxHeartbeats 1000000 in
theorem node_any (b : Nat) (F : Value) (s nm : Tm.Wd) (kd g o : Nat) (st : St) (w : World) (h : LR w b F s st) (hg : g ≠ b) (hc : w.cell? ⟨g, o + 2, none⟩ = some (.string (bstr nm))) :
    Calls Tryz.prog 60 #[.pointer (some ⟨b, 0, none⟩), .pointer (some ⟨g, o, none⟩), .int .i64 (kd : Nat)] w (NodOut w b F s nm kd st) := by
  have hglt : g < w.heap.size := World.block_lt_of_cell? w _ hc
  have hblt := h.row.lt
  unfold NodOut
  by_cases hn : st.n = 400
  · have ho : nod st = none := by unfold nod; rw [if_pos hn]
    have c3 := (h.row.alloc (.cells #[.string { data := #[] }, .int .i64 0, .int .i64 0, .int .i64 0, .int .i64 0, .string { data := #[] }, .slice none 0 0] 28)).cell0 3 (by simp)
    simp only [List.getElem_cons_zero, List.getElem_cons_succ] at c3
    rw [hn] at c3
    rw [ho]
    have HL := Lib.hid (h.keep (w' := w.alloc (.cells #[.string { data := #[] }, .int .i64 0, .int .i64 0, .int .i64 0, .int .i64 0, .string { data := #[] }, .slice none 0 0] 28)) (Below.heap_alloc _ _ _ hblt))
    have HF := Lib.hid (fun W (hW : LR W b F s st) => show Calls Tryz.prog 31 #[.pointer (some ⟨b, 0, none⟩), .int .i64 4] W fun e w' => LBad e ∧ Below W.heap.size W w' from lfail_any b 4 F s st W hW)
    have HB1 := Lib.hid ((Below.refl w.heap.size w).alloc (Nat.le_refl _) (.cells #[.string { data := #[] }, .int .i64 0, .int .i64 0, .int .i64 0, .int .i64 0, .string { data := #[] }, .slice none 0 0] 28))
    clear h ho hc hn
    go_enter Tryz.func60, Tryz.ntmps60
    go_wp2_with fail
    refine (HF.out _ HL.out).mono ?_
    rintro e w2 ⟨⟨t, v, he⟩, hb⟩
    unfold thrownL at he
    subst he
    have HB := Lib.hid (HB1.out.trans (hb.mono HB1.out.size))
    clear hb
    go_wp2_with fail
    exact ⟨rfl, But.of_below HB.out, t, v, rfl⟩
  · obtain ⟨a, ha⟩ : ∃ a, a = st.at_ := ⟨_, rfl⟩
    obtain ⟨n, hN⟩ : ∃ n, n = st.n := ⟨_, rfl⟩
    have ho : nod st = some ⟨a, n + 1⟩ := by unfold nod; rw [if_neg hn, ha, hN]
    have hn4 : n < 400 := by have := h.few; omega
    have hr1 := h.row.alloc (.cells #[.string { data := #[] }, .int .i64 0, .int .i64 0, .int .i64 0, .int .i64 0, .string { data := #[] }, .slice none 0 0] 28)
    have hr2 := (h.row.set0 3 (by simp) (.int .i64 ((n : Int) + 1))).alloc (.cells #[.string { data := #[] }, .int .i64 0, .int .i64 0, .int .i64 0, .int .i64 0, .string { data := #[] }, .slice none 0 0] 28)
    rw [← ha, ← hN] at hr1 hr2
    simp only [List.set_cons_zero, List.set_cons_succ] at hr2
    have c3 := hr1.cell0 3 (by simp)
    have f3 := hr1.frozen 3 (by simp)
    have c2 := hr2.cell0 2 (by simp)
    simp only [List.getElem_cons_zero, List.getElem_cons_succ] at c3 c2
    have d4 : decide ((n : Int) = 400) = false := decide_eq_false (by omega)
    have d5 : ((n : Int) == 400) = false := beq_eq_false_iff_ne.2 (by omega)
    have d6 : wrap64 ((n : Int) + 1) = (n : Int) + 1 := IntWalk.wrap64_in _ ⟨by omega, by omega⟩
    rw [ho, ← ha]
    have HR2 := Lib.hid hr2
    have HLN := Lib.hid (show a ≤ s.length by rw [ha]; exact h.len)
    clear h ho hn hr1 hr2 ha hN
    have hsz : (w.setCell ⟨b, 3, none⟩ (.int .i64 ((n : Int) + 1))).heap.size = w.heap.size := World.size_setCell ..
    have cg2 : ((w.setCell ⟨b, 3, none⟩ (.int .i64 ((n : Int) + 1))).alloc (.cells #[.string { data := #[] }, .int .i64 0, .int .i64 0, .int .i64 0, .int .i64 0, .string { data := #[] }, .slice none 0 0] 28)).cell? ⟨g, o + 2, none⟩ = some (.string (bstr nm)) := (World.cell?_of_block (Below.heap_alloc _ _ _ (by rw [hsz]; exact hglt))).trans ((World.cell?_of_block (Below.heap_setCell _ _ _ _ hg)).trans hc)
    have hbx : RowAt ((w.setCell ⟨b, 3, none⟩ (.int .i64 ((n : Int) + 1))).alloc (.cells #[.string { data := #[] }, .int .i64 0, .int .i64 0, .int .i64 0, .int .i64 0, .string { data := #[] }, .slice none 0 0] 28)) w.heap.size 0 28 [.string { data := #[] }, .int .i64 0, .int .i64 0, .int .i64 0, .int .i64 0, .string { data := #[] }, .slice none 0 0] := by
      have := RowAt.new (w.setCell ⟨b, 3, none⟩ (.int .i64 ((n : Int) + 1))) 28 #[.string { data := #[] }, .int .i64 0, .int .i64 0, .int .i64 0, .int .i64 0, .string { data := #[] }, .slice none 0 0]
      rw [hsz] at this
      exact this
    have hbut : But w ((w.setCell ⟨b, 3, none⟩ (.int .i64 ((n : Int) + 1))).alloc (.cells #[.string { data := #[] }, .int .i64 0, .int .i64 0, .int .i64 0, .int .i64 0, .string { data := #[] }, .slice none 0 0] 28)) b none := (But.setCell 3 _).trans (But.of_below ((Below.refl _ _).alloc (Nat.le_refl _) _))
    have HBX := Lib.hid hbx; have HBUT := Lib.hid hbut
    clear hc hbx hbut
    go_enter Tryz.func60, Tryz.ntmps60
    go_wp2_with fail
    obtain ⟨W, hW⟩ : ∃ W, W = (w.setCell ⟨b, 3, none⟩ (.int .i64 ((n : Int) + 1))).alloc (.cells #[.string { data := #[] }, .int .i64 0, .int .i64 0, .int .i64 0, .int .i64 0, .string { data := #[] }, .slice none 0 0] 28) := ⟨_, rfl⟩
    rw [← hW] at cg2 c2 HBX HBUT HR2 ⊢
    clear hW c3 f3
    have y0 := HBX.out.cell0 0 (by simp); have z0 := HBX.out.frozen0 0 (by simp)
    have y1 := HBX.out.cell0 1 (by simp); have z1 := HBX.out.frozen0 1 (by simp)
    have y2 := HBX.out.cell0 2 (by simp); have z2 := HBX.out.frozen0 2 (by simp)
    have y3 := HBX.out.cell0 3 (by simp); have z3 := HBX.out.frozen0 3 (by simp)
    have y4 := HBX.out.cell0 4 (by simp); have z4 := HBX.out.frozen0 4 (by simp)
    have y5 := HBX.out.cell0 5 (by simp); have z5 := HBX.out.frozen0 5 (by simp)
    have y6 := HBX.out.cell0 6 (by simp); have z6 := HBX.out.frozen0 6 (by simp)
    simp only [List.getElem_cons_zero, List.getElem_cons_succ] at y0 y1 y2 y3 y4 y5 y6
    have p0 := HBX.out.set0 0 (by simp) (.string (bstr nm))
    have r0 := p0.cell0 0 (by simp)
    have p1 := p0.set0 1 (by simp) (.int .i64 (kd : Nat))
    have r1 := p1.cell0 1 (by simp)
    have p2 := p1.set0 2 (by simp) (.int .i64 (a : Nat))
    have r2 := p2.cell0 2 (by simp)
    have p3 := p2.set0 3 (by simp) (.int .i64 0)
    have r3 := p3.cell0 3 (by simp)
    have p4 := p3.set0 4 (by simp) (.int .i64 0)
    have r4 := p4.cell0 4 (by simp)
    have p5 := p4.set0 5 (by simp) (.string { data := #[] })
    have r5 := p5.cell0 5 (by simp)
    have p6 := p5.set0 6 (by simp) (.slice none 0 0)
    have r6 := p6.cell0 6 (by simp)
    simp only [List.set_cons_zero, List.set_cons_succ, List.getElem_cons_zero, List.getElem_cons_succ] at r0 r1 r2 r3 r4 r5 r6
    clear p0 p1 p2 p3 p4 p5 p6
    have hbw : b ≠ w.heap.size := by omega
    have hrow : RowAt W b 0 62 [F, .string (bstr s), .int .i64 (a : Nat), .int .i64 ((n + 1 : Nat) : Int)] := HR2.out
    have hfar := st7_far (w := W) (b := w.heap.size) (.string (bstr nm)) (.int .i64 (kd : Nat)) (.int .i64 (a : Nat)) (.int .i64 0) (.int .i64 0) (.string { data := #[] }) (.slice none 0 0) b hbw
    have hl0 : LR W b F s ⟨a, n + 1⟩ := ⟨hrow, HLN.out, (show n + 1 ≤ 400 by omega)⟩
    generalize hS : st7 W w.heap.size (.string (bstr nm)) (.int .i64 (kd : Nat)) (.int .i64 (a : Nat)) (.int .i64 0) (.int .i64 0) (.string { data := #[] }) (.slice none 0 0) = S at hfar
    have hlr : LR S.drew b F s ⟨a, n + 1⟩ := hl0.keep (w' := S.drew) hfar
    rw [← hS] at hlr
    clear hfar hl0 hS
    have HLR := Lib.hid hlr
    clear hrow hlr
    go_still_tail 10, (by kernel_rfl)
    change wpList _ _ _ _ _ W.drew
    go_wp2_with fail
    refine bodyPost_ret (v := .agg (ndCells nm kd a 0 0 [] (.slice none 0 0)).toArray) (by simp [results, Tryz.results60, go_sem, r0, r1, r2, r3, r4, r5, r6]; first | done | rfl) rfl ?_
    refine ⟨(st7_but _ _ _ _ _ _ _ HBUT.out (Nat.le_refl _)).drew, rfl, ?_⟩
    exact HLR.out
end Go.Proofs.YtlomecfhobehnaaGreatDoor
end
section
/- layout's reader: number. -/
namespace Go.Proofs.YtlomecfhobehnaaGreatDoor
open Go Go.RowKit
set_option linter.unusedVariables false
set_option linter.unusedSimpArgs false
open Rd
open Ly
/-- how number ends -/
def NumOut (w : World) (o : Option Int) (e : Ending) (w' : World) : Prop := Below w.heap.size w w' ∧ match o with
  | some v => e = .returned (.int .i64 v)
  | none => LBad e
set_option maxRecDepth 100000 in
set_option maxHeartbeats 1000000 in
theorem number_any (w : World) (rb bx n : Nat) (x : Ex.X) (mv : Value) (N : Ex.Names) (hN : NamesAt w mv N n) (hx : IsX w rb bx x) (hf : Ex.Fine Num.numOf Num.dec x) :
    Calls Tryz.prog 64 #[.pointer (some ⟨bx, 0, none⟩), mv] w (NumOut w (Ex.ev N x)) := by
  have he := Eval_x w mv N n hN x hf w rb bx (Below.refl _ _) hx
  unfold NumOut
  unfold EvPost at he
  generalize Ex.ev N x = o at *
  have HE := Lib.hid he
  clear he hN hx hf
  cases o with
  | some v =>
    go_enter Tryz.func64, Tryz.ntmps64
    go_wp2_with fail
    refine HE.out.mono ?_
    rintro e w1 ⟨hb, rfl⟩
    have HB := Lib.hid hb
    clear hb
    go_wp2_with fail
    go_ret
    exact ⟨HB.out, rfl⟩
  | none =>
    go_enter Tryz.func64, Tryz.ntmps64
    go_wp2_with fail
    refine HE.out.mono ?_
    rintro e w1 ⟨hb, g, p, rfl, hr⟩
    have HB := Lib.hid hb
    clear hb hr
    go_wp2_with fail
    exact ⟨rfl, HB.out, _, _, rfl⟩
end Go.Proofs.YtlomecfhobehnaaGreatDoor
end
section
/- What a number's word stands for, in both spellings. -/
namespace Go.Proofs.YtlomecfhobehnaaGreatDoor
set_option linter.unusedVariables false
set_option linter.unusedSimpArgs false
open Ly
theorem kindV_eq {w : Tm.Wd} (h : (Tm.kindOf w).isSome = true) : (kindV w).1 = widW w ∧ (kindV w).2.1 = ordW w ∧ (kindV w).2.2 = sgdW w := by
  unfold widW ordW sgdW kindV
  refine ⟨rfl, rfl, rfl⟩
end Go.Proofs.YtlomecfhobehnaaGreatDoor
end
section
/- Contracts of package word (of WordA, without the laws' own functions). -/
namespace Go.Proofs.YtlomecfhobehnaaGreatDoor
open Go.RowKit
set_option linter.unusedVariables false
set_option linter.unusedSimpArgs false
theorem place_any (k n o : Nat) (w : World) (h1 : k < n) (h2 : n ≤ 8) :
    Calls Tryz.prog 93 #[.int .i64 k, .int .i64 n, .int .i64 o] w fun e w' => e = .returned (.int .i64 (plc k n o : Nat)) ∧ w = w' := by
  by_cases ho : o = 1
  · subst ho
    have hp : ((plc k n 1 : Nat) : Int) = (n : Int) - 1 - k := by unfold plc; simp; omega
    have HP := Lib.hid hp; clear hp
    go_enter Tryz.func93, Tryz.ntmps93
    go_wp2_with fail
    go_ret
    exact ⟨ret_int HP.out.symm, rfl⟩
  · have hp : ((plc k n o : Nat) : Int) = (k : Int) := by unfold plc; rw [if_neg ho]
    have HP := Lib.hid hp; clear hp
    have ho' : ((o : Int) == 1) = false := by simp; omega
    go_enter Tryz.func93, Tryz.ntmps93
    go_wp2_with fail
    go_ret
    exact ⟨ret_int HP.out.symm, rfl⟩

theorem right_yes (n o : Nat) (w : World) (hn : n = 1 ∨ n = 2 ∨ n = 4 ∨ n = 8) (ho : o = 0 ∨ o = 1) :
    Calls Tryz.prog 92 #[.int .i64 n, .int .i64 o] w fun e w' => e = .returned (.bool true) ∧ w = w' := by
  rcases hn with rfl | rfl | rfl | rfl <;> rcases ho with rfl | rfl
  all_goals
    go_enter Tryz.func92, Tryz.ntmps92
    go_wp2_with fail
    go_ret
    exact ⟨rfl, rfl⟩

set_option maxRecDepth 100000 in
theorem Put_any (n wd o : Nat) (w : World) (hn : wd = 1 ∨ wd = 2 ∨ wd = 4 ∨ wd = 8) (ho : o = 0 ∨ o = 1) :
    Calls Tryz.prog 67 #[.int .u64 n, .int .i64 wd, .int .i64 o] w fun e w' => e = .returned (.tuple #[.string (bstr (putB n wd o)), .nilIface]) ∧ Below w.heap.size w w' := by
  obtain ⟨i0, hi0, hz0, hz1, hz2⟩ := info_parts infoU8
  have hw8 : wd ≤ 8 := by omega
  have hw1 : 1 ≤ wd := by omega
  go_enter Tryz.func67, Tryz.ntmps67
  go_wp2_with (first
    | (go_at_call 92; refine (right_yes wd o _ hn ho).mono ?_; rintro e w' ⟨rfl, rfl⟩)
    | (at_make; refine wpList_make_full _ rfl _ _ _ rfl w.heap.size 5 i0 (.int .u8 0) 1 Tryz.underlying147 hi0 hz0 hz1 .i64 .i64 wd wd wd rfl rfl rfl rfl (by rw [hz2]; omega) (by unfold maxLen; omega) (Nat.le_refl _) ?_; intro w1 hown1 hgrow1))
  have hmc : (madeCells (Value.int IntKind.u8 0).cells (wd * 1)).toList = putRow n wd o 0 := by
    rw [putRow_zero, Nat.mul_one]; exact toList_madeCells_one _ _
  rw [hmc] at hown1
  clear hmc
  have hb1 : Below w.heap.size w w1 := (Below.refl _ _).grown hgrow1 (Nat.le_refl _) (by simp)
  clear hgrow1
  generalize hB : w.heap.size = B at *
  have HB := Lib.hid hB; clear hB
  go_loopw [18] (fun i wr => ∃ k : Nat, k ≤ wd ∧ i = .int .i64 k ∧ wr.ownsRow B 5 1 (.slice (some ⟨B, 0, none⟩) wd wd) wd (putRow n wd o k) ∧ Below B w wr) (fun i _ => wd - (intOf i).toNat)
  case atStart => exact ⟨0, by omega, rfl, hown1, hb1⟩
  case round =>
    obtain ⟨k, hk, rfl, hown, hb⟩ := hrel
    clear hown1 hb1
    by_cases hlt : k < wd
    · have hp := plc_lt (o := o) hlt
      obtain ⟨v0, hcell⟩ : ∃ v, wr.cell? ⟨B, plc k wd o, none⟩ = some v :=
        ⟨_, (hown.cellAt (plc k wd o) (by omega)).trans (List.getElem?_eq_getElem (by rw [putRow_length]; exact hp))⟩
      have hfr := hown.frozenAt (plc k wd o)
      have hb5 := byteOf_shr n k
      rw [← IntKind.wrap_u8'] at hb5
      have hs1 : IntKind.i64.wrap (8 * (k : Int)) = 8 * (k : Int) := IntWalk.i64_in _ ⟨by omega, by omega⟩
      have hs2 : (0 : Int) ≤ 8 * (k : Int) := by omega
      have hs3 : 8 * (k : Int) ≤ 64 := by omega
      have hs4 : (8 * (k : Int)).toNat = 8 * k := by omega
      have hs5 : ((plc k wd o : Nat) : Int) < (wd : Int) := by omega
      have hstep := putRow_step n wd o k hlt
      have hset := hown.stored (plc k wd o) (.int .u8 ((byteOf n k : Nat) : Int))
      rw [hstep] at hset
      have HSET := Lib.hid hset
      clear hstep hset
      go_wp2_with fail
      go_still_tail 11, (by kernel_rfl)
      still_call ((place_any k wd o _ hlt hw8).mono fun _ _ h => ⟨h.1, h.2.symm⟩)
      repeat still_step
      refine wpStill_nil ?_
      change wpList _ _ _ _ _ wr.drew
      go_wp2_with fail
      go_roundw
      case rel => exact ⟨k + 1, by omega, by go_num, HSET.out.1, (hb.setCell (p := ⟨B, plc k wd o, none⟩) (Nat.le_refl _) _).drew⟩
      case measure => simp [intOf]; omega
    · obtain rfl : k = wd := by omega
      have hconv := run_convert_bytes_arg (P := Tryz.prog) wr 147 5 Tryz.underlying147 Tryz.underlying5 B 0 k k ((List.range k).map fun j => ((putCell n k o k j : Nat) : Int)) (by simp)
        (fun i hi => by rw [Nat.zero_add, hown.cellAt i (by omega)]; simp [putRow, hi]) 9 Tryz.underlying9
      clear hown
      generalize hS : strOfNums ((List.range k).map fun j => ((putCell n k o k j : Nat) : Int)) = S at hconv
      have HS := Lib.hid hS; clear hS
      go_wp2_with fail
      go_ret2
      refine ⟨?_, by rw [HB.out]; exact hb⟩
      rw [← HS.out, putB_of_row]
      rfl

set_option maxRecDepth 100000 in
theorem Get_any (s : ByteArray) (a wd o : Nat) (w : World) (hn : wd = 1 ∨ wd = 2 ∨ wd = 4 ∨ wd = 8) (ho : o = 0 ∨ o = 1) (ha : a + wd ≤ s.size) (hs : s.size ≤ maxLen) :
    Calls Tryz.prog 62 #[.string s, .int .i64 a, .int .i64 wd, .int .i64 o] w fun e w' => e = .returned (.tuple #[.int .u64 (getN s.data.toList a wd o wd : Nat), .nilIface]) ∧ w = w' := by
  unfold maxLen at hs
  have hw8 : wd ≤ 8 := by omega
  have hw1 : 1 ≤ wd := by omega
  go_enter Tryz.func62, Tryz.ntmps62
  go_wp2_with (go_at_call 92; refine (right_yes wd o _ hn ho).mono ?_; rintro e w' ⟨rfl, rfl⟩)
  go_loop [10, 29] (fun n i => ∃ k : Nat, k ≤ wd ∧ i = .int .i64 k ∧ n = .int .u64 (getN s.data.toList a wd o k : Nat)) (fun n i => wd - (intOf i).toNat)
  case atStart => exact ⟨0, by omega, rfl, rfl⟩
  case round =>
    obtain ⟨k, hk, rfl, rfl⟩ := hrel
    have hg := getN_lt s.data.toList a wd o k
    have hg8 := pow256_le (show k ≤ 8 by omega)
    generalize hG : getN s.data.toList a wd o k = G at *
    have HG := Lib.hid hG; clear hG
    by_cases hlt : k < wd
    · have hp := plc_lt (o := o) hlt
      go_wp2_with (go_at_call 93; refine (place_any k wd o _ hlt hw8).mono ?_; rintro e w' ⟨rfl, rfl⟩)
      go_round
      case rel => exact ⟨k + 1, by omega, by go_num, val_int (get_step s a wd o k G HG.out hg (by omega) (by omega))⟩
      case measure => simp [intOf]; omega
    · obtain rfl : k = wd := by omega
      go_wp2_with fail
      go_ret2
      exact ⟨by rw [HG.out]; rfl, rfl⟩

set_option maxRecDepth 100000 in
theorem Unsigned_any (n wd : Nat) (w : World) (hn : n < 18446744073709551616) (h1 : 1 ≤ wd) (h8 : wd ≤ 8) :
    Calls Tryz.prog 73 #[.int .u64 n, .int .i64 wd] w fun e w' => e = .returned (.int .u64 (unsN n wd : Nat)) ∧ w = w' := by
  obtain rfl | rfl | rfl | rfl | rfl | rfl | rfl | rfl : wd = 1 ∨ wd = 2 ∨ wd = 3 ∨ wd = 4 ∨ wd = 5 ∨ wd = 6 ∨ wd = 7 ∨ wd = 8 := by omega
  all_goals
    go_enter Tryz.func73, Tryz.ntmps73
    go_wp2_with fail
    go_ret
    refine ⟨ret_int ?_, rfl⟩
    unfold unsN
    first | (rw [IntKind.wrap_u64]; omega) | omega
set_option maxRecDepth 100000 in
theorem Signed_any (n wd : Nat) (w : World) (hn : n < 18446744073709551616) (h1 : 1 ≤ wd) (h8 : wd ≤ 8) :
    Calls Tryz.prog 63 #[.int .u64 n, .int .i64 wd] w fun e w' => e = .returned (.int .i64 (sgnI n wd)) ∧ w = w' := by
  obtain rfl | rfl | rfl | rfl | rfl | rfl | rfl | rfl : wd = 1 ∨ wd = 2 ∨ wd = 3 ∨ wd = 4 ∨ wd = 5 ∨ wd = 6 ∨ wd = 7 ∨ wd = 8 := by omega
  all_goals
    go_enter Tryz.func63, Tryz.ntmps63
    go_wp2_with fail
    go_ret
    refine ⟨ret_int ?_, rfl⟩
    unfold sgnI unsN wrap64
    split <;> first | (rw [IntKind.wrap_u64]; omega) | omega

set_option maxRecDepth 100000 in
theorem Fits_true (n : Int) (wd : Nat) (w : World) (lo : -9223372036854775808 ≤ n) (hi : n ≤ 9223372036854775807) (h1 : 1 ≤ wd) (h8 : wd ≤ 8) :
    Calls Tryz.prog 39 #[.int .i64 n, .int .i64 wd, .bool true] w fun e w' => e = .returned (.bool (sgnI (u64N n) wd == n)) ∧ w = w' := by
  have hu := u64N_wrap n
  have hul := u64N_lt n
  generalize u64N n = u at *
  go_enter Tryz.func39, Tryz.ntmps39
  go_wp2_with (go_at_call 63; refine (Signed_any u wd _ hul h1 h8).mono ?_; rintro e w' ⟨rfl, rfl⟩)
  go_ret
  exact ⟨rfl, rfl⟩
set_option maxRecDepth 100000 in
theorem Fits_false (n : Int) (wd : Nat) (w : World) (lo : -9223372036854775808 ≤ n) (hi : n ≤ 9223372036854775807) (h1 : 1 ≤ wd) (h8 : wd ≤ 8) :
    Calls Tryz.prog 39 #[.int .i64 n, .int .i64 wd, .bool false] w fun e w' => e = .returned (.bool (decide (0 ≤ n) && (((unsN (u64N n) wd : Nat) : Int) == ((u64N n : Nat) : Int)))) ∧ w = w' := by
  have hu := u64N_wrap n
  have hul := u64N_lt n
  generalize u64N n = u at *
  by_cases h0 : 0 ≤ n
  · have hd : decide (0 ≤ n) = true := by simpa using h0
    go_enter Tryz.func39, Tryz.ntmps39
    go_wp2_with (go_at_call 73; refine (Unsigned_any u wd _ hul h1 h8).mono ?_; rintro e w' ⟨rfl, rfl⟩)
    go_ret
    first | exact ⟨rfl, rfl⟩ | exact ⟨by rw [hd]; rfl, rfl⟩
  · have hd : decide (0 ≤ n) = false := by simpa using h0
    go_enter Tryz.func39, Tryz.ntmps39
    go_wp2_with fail
    go_ret
    first | exact ⟨rfl, rfl⟩ | exact ⟨by rw [hd]; rfl, rfl⟩

end Go.Proofs.YtlomecfhobehnaaGreatDoor
end
section
/- layout's reader, one: what it holds; how it ends. -/
namespace Go.Proofs.YtlomecfhobehnaaGreatDoor
open Go Go.RowKit
set_option linter.unusedVariables false
set_option linter.unusedSimpArgs false
open Rd
open Ly
/-- how one ends -/
def OneOut (w : World) (b : Nat) (m : Option Nat) (F : Value) (s : Tm.Wd) (st : St) (o : Option (Nd × St)) (e : Ending) (w' : World) : Prop := But w w' b m ∧ match o with
  | some p => (∃ v bl, e = .returned v ∧ NdV w' w.heap.size bl p.1 v ∧ bl.Nodup) ∧ LR w' b F s p.2 ∧ st.at_ ≤ p.2.at_ ∧ st.n < p.2.n
  | none => LBad e
theorem nod_n {st st1 : St} (h : nod st = some st1) : st1.n = st.n + 1 := by
  unfold nod at h
  split at h
  · cases h
  · cases h; rfl
theorem tak_n {s : Tm.Wd} {k : Int} {st st2 : St} {u : Tm.Wd} (h : tak s k st = some (u, st2)) : st2.n = st.n := by
  unfold tak at h
  split at h
  · cases h
  · cases h; rfl
abbrev zeroNd : List Value := [.string { data := #[] }, .int .i64 0, .int .i64 0, .int .i64 0, .int .i64 0, .string { data := #[] }, .slice none 0 0]
/-- what one holds: the result's box at w0's end, its node's box at nb -/
structure BxS (w0 w : World) (b nb : Nat) (m : Option Nat) (F : Value) (s : Tm.Wd) (st : St) (cs : List Value) : Prop where
  but : But w0 w b m
  res : RowAt w w0.heap.size 0 28 zeroNd
  row : RowAt w nb 0 28 cs
  lt : w0.heap.size < nb
  lr : LR w b F s st
  blt : b < w0.heap.size
  mlt : ∀ x, m = some x → x < w0.heap.size
section
variable {w0 w w' : World} {b nb : Nat} {m : Option Nat} {F : Value} {s : Tm.Wd} {st st' : St} {cs : List Value}
theorem BxS.move (h : BxS w0 w b nb m F s st cs) (hb : But w w' b m) (hl : LR w' b F s st') : BxS w0 w' b nb m F s st' cs := by
  have h1 := h.but.size; have h2 := h.blt; have h3 := h.lt
  have k : ∀ g, g < w.heap.size → w0.heap.size ≤ g → w'.heap[g]? = w.heap[g]? := fun g hg h4 => hb.block g hg (by omega) (fun e => by have := h.mlt g e.symm; omega)
  exact ⟨h.but.trans hb, h.res.of_heap (k _ h.res.lt (Nat.le_refl _)), h.row.of_heap (k _ h.row.lt (by omega)), h3, hl, h2, h.mlt⟩
theorem BxS.up (h : BxS w0 w b nb m F s st cs) (hb : Below w.heap.size w w') : BxS w0 w' b nb m F s st cs := h.move (But.of_below hb) (h.lr.keep (hb.block _ h.lr.row.lt))
theorem BxS.drewN (h : BxS w0 w b nb m F s st cs) (k : Nat) : BxS w0 (w.drewN k) b nb m F s st cs := h.up ⟨rfl, rfl, rfl, Nat.le_refl _, fun _ _ => rfl⟩
theorem BxS.set (h : BxS w0 w b nb m F s st cs) (k : Nat) (hk : k < cs.length) (v : Value) : BxS w0 (w.setCell ⟨nb, k, none⟩ v) b nb m F s st (cs.set k v) := by
  have h1 := h.but.size; have h2 := h.blt; have h3 := h.lt
  refine ⟨but_setX h.but (by omega) k v, h.res.far (show w0.heap.size ≠ nb by omega) v, h.row.set0 k hk v, h3, ?_, h2, h.mlt⟩
  exact h.lr.keep (Below.heap_setCell _ _ _ _ (show b ≠ nb by omega))
theorem BxS.cell (h : BxS w0 w b nb m F s st cs) (k : Nat) (hk : k < cs.length) : w.cell? ⟨nb, k, none⟩ = some cs[k] ∧ w.frozen? ⟨nb, k, none⟩ = false := ⟨h.row.cell0 k hk, h.row.frozen0 k hk⟩
/-- behind node -/
theorem BxS.start {st1 : St} {nm : Tm.Wd} {kd : Nat} (hL : LR w0 b F s st) {W0 : World} (hW : W0 = w0.alloc (.cells zeroNd.toArray 28)) {w1 : World} (hb : But W0 w1 b none) (hl : LR w1 b F s st1) (hm : ∀ x, m = some x → x < w0.heap.size) :
    BxS w0 (w1.alloc (.cells (ndCells nm kd st.at_ 0 0 [] (.slice none 0 0)).toArray 28)) b w1.heap.size m F s st1 (ndCells nm kd st.at_ 0 0 [] (.slice none 0 0)) := by
  have hlt := hL.row.lt
  have hW0 : RowAt W0 w0.heap.size 0 28 zeroNd := by rw [hW]; exact RowAt.new w0 _ _
  have hs0 : W0.heap.size = w0.heap.size + 1 := by rw [hW]; simp
  have hs1 := hb.size
  have h1 : RowAt w1 w0.heap.size 0 28 zeroNd := hW0.of_heap (hb.block _ hW0.lt (by omega) (fun e => by cases e))
  refine ⟨?_, h1.alloc _, RowAt.new w1 _ _, by omega, hl.keep (Below.heap_alloc _ _ _ hl.row.lt), hlt, hm⟩
  have k1 : But w0 W0 b m := by rw [hW]; exact But.of_below ((Below.refl _ _).alloc (Nat.le_refl _) _)
  exact (k1.trans hb.wide).trans (But.of_below ((Below.refl _ _).alloc (Nat.le_refl _) _))
end
/-- the result, stored -/
theorem BxS.result {w0 w : World} {b nb : Nat} {m : Option Nat} {F : Value} {s : Tm.Wd} {st : St} {cs : List Value} (h : BxS w0 w b nb m F s st cs) (v0 v1 v2 v3 v4 v5 v6 : Value) :
    But w0 (st7 w w0.heap.size v0 v1 v2 v3 v4 v5 v6) b m ∧ LR (st7 w w0.heap.size v0 v1 v2 v3 v4 v5 v6) b F s st ∧ RowAt (st7 w w0.heap.size v0 v1 v2 v3 v4 v5 v6) w0.heap.size 0 28 [v0, v1, v2, v3, v4, v5, v6] := by
  have h2 := h.blt
  exact ⟨st7_but _ _ _ _ _ _ _ h.but (Nat.le_refl _), h.lr.keep (st7_far _ _ _ _ _ _ _ _ (by omega)), st7_row h.res (by rfl) _ _ _ _ _ _ _⟩
/-- the ways on which it was thrown -/
theorem one_bad {w0 W0 w1 : World} {b : Nat} {m : Option Nat} {o : Obj} (hW : W0 = w0.alloc o) (hb : But W0 w1 b none) (hlt : b < w0.heap.size) : But w0 w1 b m := by
  have k1 : But w0 W0 b m := by rw [hW]; exact But.of_below ((Below.refl _ _).alloc (Nat.le_refl _) _)
  exact k1.trans hb.wide
/-! ## the words of numbers -/
theorem val_lt8 {gv k : Nat} (h : gv < 256 ^ k) (hk : k ≤ 8) : gv < 18446744073709551616 := by
  have h1 : 256 ^ k ≤ 256 ^ 8 := Nat.pow_le_pow_right (by omega) hk
  have h2 : (256 : Nat) ^ 8 = 18446744073709551616 := by decide
  omega
theorem wrap_small {gv : Nat} (h : gv < 4294967296) : wrap64 (gv : Int) = (gv : Int) := IntWalk.wrap64_in _ ⟨by omega, by omega⟩
theorem val_lt4 {gv k : Nat} (h : gv < 256 ^ k) (hk : k ≤ 4) : gv < 4294967296 := by
  have h1 : 256 ^ k ≤ 256 ^ 4 := Nat.pow_le_pow_right (by omega) hk
  have h2 : (256 : Nat) ^ 4 = 4294967296 := by decide
  omega
theorem kindOf_mem {w : Tm.Wd} {k : Nat × Nat × Bool} (h : Tm.kindOf w = some k) : ∃ p ∈ Tm.numWords, p.2 = k := by
  unfold Tm.kindOf at h
  cases hf : Tm.numWords.find? (fun p => p.1 == w) with
  | none => rw [hf] at h; cases h
  | some p =>
    rw [hf] at h
    exact ⟨p, List.mem_of_find?_eq_some hf, by simpa using h⟩
theorem numWords_ok : ∀ p ∈ Tm.numWords, (p.2.1 = 1 ∨ p.2.1 = 2 ∨ p.2.1 = 4 ∨ p.2.1 = 8) ∧ (p.2.2.1 = 0 ∨ p.2.2.1 = 1) ∧ (p.2.2.2 = false → p.2.1 ≤ 4) := by decide
theorem word_ok {w : Tm.Wd} (h : (Tm.kindOf w).isSome = true) : (widW w = 1 ∨ widW w = 2 ∨ widW w = 4 ∨ widW w = 8) ∧ (ordW w = 0 ∨ ordW w = 1) ∧ (sgdW w = false → widW w ≤ 4) := by
  cases hk : Tm.kindOf w with
  | none => rw [hk] at h; cases h
  | some k =>
    obtain ⟨p, hp, rfl⟩ := kindOf_mem hk
    have := numWords_ok p hp
    unfold widW ordW sgdW
    rw [hk]
    exact this
end Go.Proofs.YtlomecfhobehnaaGreatDoor
end
section
/- What tmpl.item holds: the reader, the result's box, the item's box. -/
namespace Go.Proofs.YtlomecfhobehnaaGreatDoor
open Go.RowKit
set_option linter.unusedVariables false
set_option linter.unusedSimpArgs false
open Rd
/-- w0: the world at item's begin; yb: the result's box; xb: the item's box with the cells cs -/
structure ItSt (w0 w : World) (rb yb xb E : Nat) (R : List Rd.Tok) (ys cs : List Value) : Prop where
  gr : w0.grownBy w (some rb)
  env : Env w rb
  ylo : w0.heap.size ≤ yb
  xlo : w0.heap.size ≤ xb
  ne : xb ≠ yb
  lt : rb < w0.heap.size
  rd : Rdr w rb R E
  yrow : RowAt w yb 0 70 ys
  row : RowAt w xb 0 70 cs
  gy : ∃ wy : World, wy.heap.size ≤ xb ∧ RowAt wy yb 0 70 ys ∧ w0.grownBy wy (some rb) ∧ wy.grownBy w (some rb)
section
variable {w0 w w' : World} {rb yb xb E : Nat} {R R' : List Rd.Tok} {ys cs : List Value}
theorem ItSt.move (h : ItSt w0 w rb yb xb E R ys cs) (hr : Rdr w' rb R' E) (hg : w.grownBy w' (some rb)) : ItSt w0 w' rb yb xb E R' ys cs :=
  ⟨grownBy_trans h.gr hg, h.env.grown hg h.rd.lt, h.ylo, h.xlo, h.ne, h.lt, hr,
    h.yrow.of_heap (hg.block yb h.yrow.lt (fun e => by injection e with e; have := h.lt; have := h.ylo; omega)),
    h.row.of_heap (hg.block xb h.row.lt (fun e => by injection e with e; have := h.lt; have := h.xlo; omega)),
    by obtain ⟨wy, h1, h2, h3, h4⟩ := h.gy; exact ⟨wy, h1, h2, h3, grownBy_trans h4 hg⟩⟩
theorem env_set {w : World} {rb xb k : Nat} (h : Env w rb) (hx : rb ≤ xb) (v : Value) : Env (w.setCell ⟨xb, k, none⟩ v) rb := by
  have key : ∀ (p : Addr), p.block < rb → (w.setCell ⟨xb, k, none⟩ v).cell? p = w.cell? p := fun p hlt => World.cell?_of_block (Below.heap_setCell w ⟨xb, k, none⟩ v p.block (by show p.block ≠ xb; omega))
  refine ⟨⟨h.lv.1, fun k hk => ?_⟩, (key ⟨_, 0, none⟩ h.eb).trans h.er, h.eb⟩
  obtain ⟨gk, ck, h1, h2, h3⟩ := h.lv.2 k hk
  exact ⟨gk, ck, (key ⟨_, k, none⟩ h.lv.1).trans h1, h2, fun j hj => (key (gk.add j) (by rw [Addr.add_block]; exact h2)).trans (h3 j hj)⟩
theorem ItSt.set (h : ItSt w0 w rb yb xb E R ys cs) (k : Nat) (hk : k < cs.length) (v : Value) : ItSt w0 (w.setCell ⟨xb, k, none⟩ v) rb yb xb E R ys (cs.set k v) :=
  ⟨up_setX h.gr h.xlo _, env_set h.env (by have := h.lt; have := h.xlo; omega) v, h.ylo, h.xlo, h.ne, h.lt, h.rd.setX (by have := h.lt; have := h.xlo; omega) _,
    h.yrow.of_heap (Below.heap_setCell w ⟨xb, k, none⟩ v yb (fun e => h.ne e.symm)), h.row.set0 k hk v,
    by obtain ⟨wy, h1, h2, h3, h4⟩ := h.gy; exact ⟨wy, h1, h2, h3, up_setX h4 h1 _⟩⟩
theorem ItSt.cell (h : ItSt w0 w rb yb xb E R ys cs) (k : Nat) (hk : k < cs.length) : w.cell? ⟨xb, k, none⟩ = some cs[k] ∧ w.frozen? ⟨xb, k, none⟩ = false := ⟨h.row.cell0 k hk, h.row.frozen0 k hk⟩
def cells0 (a : Nat) : List Value := [.int .i64 0, .int .i64 (a : Nat), .string { data := #[] }, .string { data := #[] }, .int .i64 0, .int .i64 0, .bool false, .bool false, .pointer none, .int .i64 0, .string { data := #[] }, .string { data := #[] }, .slice none 0 0]
theorem ItSt.start (he : Env w rb) (hr : Rdr w rb R E) (a : Nat) : ItSt w ((w.alloc (.cells #[.int .i64 0, .int .i64 0, .string { data := #[] }, .string { data := #[] }, .int .i64 0, .int .i64 0, .bool false, .bool false, .pointer none, .int .i64 0, .string { data := #[] }, .string { data := #[] }, .slice none 0 0] 70)).alloc (.cells #[.int .i64 0, .int .i64 (a : Nat), .string { data := #[] }, .string { data := #[] }, .int .i64 0, .int .i64 0, .bool false, .bool false, .pointer none, .int .i64 0, .string { data := #[] }, .string { data := #[] }, .slice none 0 0] 70)) rb w.heap.size (w.heap.size + 1) E R (cells0 0) (cells0 a) := by
  have h1 := (Below.refl w.heap.size w).alloc (Nat.le_refl _) (.cells #[.int .i64 0, .int .i64 0, .string { data := #[] }, .string { data := #[] }, .int .i64 0, .int .i64 0, .bool false, .bool false, .pointer none, .int .i64 0, .string { data := #[] }, .string { data := #[] }, .slice none 0 0] 70)
  have h2 := h1.alloc (by simp) (.cells #[.int .i64 0, .int .i64 (a : Nat), .string { data := #[] }, .string { data := #[] }, .int .i64 0, .int .i64 0, .bool false, .bool false, .pointer none, .int .i64 0, .string { data := #[] }, .string { data := #[] }, .slice none 0 0] 70)
  have hg := below_grown h2 (some rb)
  refine ⟨hg, he.grown hg hr.lt, Nat.le_refl _, Nat.le_succ _, by omega, hr.lt, hr.below h2, ?_, ?_, ?_⟩
  · exact (RowAt.new w 70 (cells0 0).toArray).alloc _
  · have := RowAt.new (w.alloc (.cells (cells0 0).toArray 70)) 70 (cells0 a).toArray
    rw [World.size_alloc] at this
    exact this
  · refine ⟨w.alloc (.cells (cells0 0).toArray 70), by rw [World.size_alloc]; exact Nat.le_refl _, RowAt.new w 70 (cells0 0).toArray, below_grown h1 _, World.grownBy_alloc _ _ _⟩
/-- .. as tmpl.rule wants it, and back -/
theorem ItSt.rule (h : ItSt w0 w rb yb xb E R ys cs) {c : C10} (hc : cs = c.row 0 [] []) : ∃ wy : World, RuSt wy w rb xb E R c 0 [] [] ∧ w0.grownBy wy (some rb) ∧
    ∀ w' R' r f l, RuSt wy w' rb xb E R' c r f l → ItSt w0 w' rb yb xb E R' ys (c.row r f l) := by
  obtain ⟨wy, h1, h2, h3, h4⟩ := h.gy
  have hlt : rb < xb := by have := h.lt; have := h.xlo; omega
  refine ⟨wy, ⟨h4, h1, hlt, h.rd, by rw [← hc]; exact h.row⟩, h3, ?_⟩
  intro w' R' r f l hs
  have hrlt : rb < wy.heap.size := Nat.lt_of_lt_of_le h.lt h3.size
  have hyb : some yb ≠ some rb := fun e => by injection e with e; have := h.lt; have := h.ylo; omega
  refine ⟨grownBy_trans h3 hs.gr, ?_, h.ylo, h.xlo, h.ne, h.lt, hs.rd, h2.of_heap (hs.gr.block yb h2.lt hyb), hs.row, wy, h1, h2, h3, hs.gr⟩
  have key : ∀ (p : Addr), p.block < rb → w'.cell? p = w.cell? p := fun p hlt =>
    World.cell?_of_block ((hs.gr.block p.block (Nat.lt_trans hlt hrlt) (fun e => by injection e with e; omega)).trans (h4.block p.block (Nat.lt_trans hlt hrlt) (fun e => by injection e with e; omega)).symm)
  have he := h.env
  refine ⟨⟨he.lv.1, fun k hk => ?_⟩, (key ⟨_, 0, none⟩ he.eb).trans he.er, he.eb⟩
  obtain ⟨gk, ck, e1, e2, e3⟩ := he.lv.2 k hk
  exact ⟨gk, ck, (key ⟨_, k, none⟩ he.lv.1).trans e1, e2, fun j hj => (key (gk.add j) (by rw [Addr.add_block]; exact e2)).trans (e3 j hj)⟩
end
end Go.Proofs.YtlomecfhobehnaaGreatDoor
end
