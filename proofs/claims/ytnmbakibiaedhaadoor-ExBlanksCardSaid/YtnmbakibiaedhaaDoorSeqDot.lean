/- strings.SplitSeq at a point: its iterator's contract (Steps). -/
import Derived.Test.YtnmbakibiaedhaaDoorPlainXxd
import Derived.Test.YtnmbakibiaedhaaDoorShelfEx
import Derived.Test.YtnmbakibiaedhaaDoorPlainEx2
import Derived.Test.YtnmbakibiaedhaaDoorMem
import Derived.Test.YtnmbakibiaedhaaDoorRangeC
import Derived.RangeFuncBox
import Derived.RangeFuncNested
import Derived.RangeFuncBound
import Derived.RangeFuncCalls
import Derived.RangeFuncLeaves
import Derived.Shelf.Abstract
import Derived.OwnWalkIn
import Derived.TacticsInMore
import Derived.LoopNIn
import Derived.LoopIn
namespace Go.Proofs.YtnmbakibiaedhaaDoor
open Go.RowKit Go.Shelf
set_option linter.unusedVariables false
set_option linter.unusedSimpArgs false
attribute [local go_sem] Oper.semAt_some
/-- the three boxes of the iterator: the text, what parts it, how much of that stays -/
structure SeqB (w : World) (B : Nat) (s : List UInt8) : Prop where
  txt : RowAt w B 0 9 [.string (bstr s)]
  sep : RowAt w (B + 1) 0 9 [.string (bstr [46])]
  sav : RowAt w (B + 2) 0 3 [.int .i64 0]
theorem SeqB.of {w w' : World} {B : Nat} {s : List UInt8} (h : SeqB w B s) (hk : ∀ k, B ≤ k → k < B + 3 → w'.heap[k]? = w.heap[k]?) : SeqB w' B s :=
  ⟨h.txt.of_heap (hk _ (by omega) (by omega)), h.sep.of_heap (hk _ (by omega) (by omega)), h.sav.of_heap (hk _ (by omega) (by omega))⟩
def KeptB (B : Nat) (w w' : World) : Prop := ∀ k, B ≤ k → k < B + 3 → w'.heap[k]? = w.heap[k]?
theorem room_none {F : Fence} (hd : F.depth = none) (k : Nat) : F.room k := fun d h => by rw [hd] at h; cases h
theorem YieldAt.anyDepth {F : Fence} (hd : F.depth = none) {m : Nat} (m' : Nat) {P : Program} {l : Nat} {args : Array Value} {W : World} {R : Ending → World → Prop} (h : YieldAt F m P l args W R) : YieldAt F m' P l args W R := by
  obtain ⟨fn, tmps, assign, body, hy, hR⟩ := h
  exact ⟨fn, tmps, assign, body, hy, hR.1, fun c cs _ => hR.2 c cs (room_none hd _)⟩
theorem bstr_cut (l : List UInt8) (i j : Nat) : (bstr l).extract i j = bstr ((l.drop i).take (j - i)) := by
  apply ByteArray.ext
  apply Array.ext'
  rw [ByteArray.data_extract, Array.toList_extract]
  rfl
namespace Ex
theorem indexByte_no : ∀ (l : List UInt8) (c : UInt8), c ∉ l → Lib.indexByte l c = -1
  | [], _, _ => rfl
  | b :: l, c, h => by
    have h1 : (b == c) = false := by rw [beq_eq_false_iff_ne]; intro e; exact h (by rw [e]; simp)
    have h2 := indexByte_no l c (fun h3 => h (by simp [h3]))
    unfold Lib.indexByte
    rw [h1, h2]; rfl
theorem indexByte_at : ∀ (p : List UInt8) (c : UInt8) (r : List UInt8), c ∉ p → Lib.indexByte (p ++ c :: r) c = (p.length : Int)
  | [], c, r, _ => by
    show Lib.indexByte (c :: r) c = 0
    unfold Lib.indexByte
    simp
  | b :: p, c, r, h => by
    have h1 : (b == c) = false := by rw [beq_eq_false_iff_ne]; intro e; exact h (by rw [e]; simp)
    have h2 := indexByte_at p c r (fun h3 => h (by simp [h3]))
    rw [List.cons_append]
    unfold Lib.indexByte
    rw [h1, h2]
    have h3 : ((p.length : Int) == -1) = false := by rw [beq_eq_false_iff_ne]; omega
    rw [h3, List.length_cons]
    simp
end Ex
theorem indexDot_last (x : List UInt8) (h : 46 ∉ x) : Lib.indexByte (Ex.joinDot [x]) 46 = -1 := Ex.indexByte_no x 46 h
theorem indexDot_more (x y : List UInt8) (r : List (List UInt8)) (h : 46 ∉ x) : Lib.indexByte (Ex.joinDot (x :: y :: r)) 46 = (x.length : Int) := Ex.indexByte_at x 46 _ h
set_option maxRecDepth 100000 in
set_option maxHeartbeats 4000000 in
theorem split_steps (B : Nat) (L : List (List UInt8)) (hL : L ≠ []) (hno : ∀ x ∈ L, 46 ∉ x) (hlen : (Ex.joinDot L).length ≤ 1000000) (w : World) (hB : SeqB w B (Ex.joinDot L)) :
    Steps Fence.wide 8 Tryd.prog 131 #[.pointer (some ⟨B + 1, 0, none⟩), .pointer (some ⟨B, 0, none⟩), .pointer (some ⟨B + 2, 0, none⟩)] (fun x : List UInt8 => #[Value.string (bstr x)]) (KeptB B) L B w := by
  intro l J Jx W hW hJB hJxB hY h0
  have hBW : SeqB W B (Ex.joinDot L) := hB.of fun k h1 h2 => hW.block k (by have := hB.sav.lt; omega)
  have hlenL := hlen
  refine callsIn_of_wp Tryd.func131 rfl trivial ?_ rfl
  simp only [Tryd.ntmps131, List.size_toArray, List.length_cons, List.length_nil, Nat.reduceAdd, Nat.reduceSub, Array.replicate_succ, Array.replicate_zero, List.push_toArray, List.append_toArray, List.nil_append, List.cons_append]
  have c0 := hBW.sep.cell0 0 (by simp)
  simp only [List.getElem_cons_zero] at c0
  gi_wp2
  gi_loopw [7, 8] (fun _ _ wr => ∃ pre rest : List (List UInt8), pre ++ rest = L ∧ rest ≠ [] ∧ J pre wr ∧ SeqB wr B (Ex.joinDot rest) ∧ (Ex.joinDot rest).length ≤ 1000000) (fun _ _ wr => match wr.cell? ⟨B, 0, none⟩ with | some (.string s) => s.size | _ => 0)
  case atStart => exact ⟨[], L, rfl, hL, h0, hBW, hlenL⟩
  case round =>
    obtain ⟨pre, rest, hpr, hne, hJ, hS, hln⟩ := hrel
    have c1 := hS.txt.cell0 0 (by simp)
    have c2 := hS.sep.cell0 0 (by simp)
    have c3 := hS.sav.cell0 0 (by simp)
    simp only [List.getElem_cons_zero] at c1 c2 c3
    have f1 := hS.txt.frozen0 0 (by simp)
    cases rest with
    | nil => exact absurd rfl hne
    | cons x r =>
      have hx10 : 46 ∉ x := hno x (by rw [← hpr]; simp)
      have hyx := hY pre x wr hJ (by rw [← hpr]; exact ⟨r, by simp⟩)
      cases r with
      | nil =>
        have hjx : Ex.joinDot [x] = x := rfl
        rw [hjx] at c1 hS hln
        have hi := (Tryd.strings_Index_one (bstr x) 46 wr).mono (R' := fun e w' => e = .returned (.int .i64 (-1)) ∧ w' = wr) (fun e w' ⟨h1, h2⟩ => ⟨by rw [h1]; exact congrArg (fun z => Ending.returned (Value.int .i64 z)) (indexDot_last x hx10), h2⟩)
        clear hjx
        have HI := Lib.hid hi
        have HYX := Lib.hid hyx
        clear hi hyx
        gi_wp2
        refine ⟨trivial, (callsIn_wide.2 HI.out).mono ?_⟩
        rintro e w1 ⟨rfl, rfl⟩
        obtain ⟨fn, tmps, assign, body, hy, hR⟩ := HYX.out
        have HRR := Lib.hid hR
        clear hR
        gi_wp2
        refine HRR.out.mono ?_
        rintro e w2 (⟨rfl, hj, _⟩ | ⟨rfl, hj⟩)
        · gi_wp2
          go_end0
          exact ⟨⟨_, rfl⟩, .inl (by rw [← hpr]; exact hj)⟩
        · gi_wp2
          go_end0
          exact ⟨⟨_, rfl⟩, .inr ⟨_, hj⟩⟩
      | cons y r =>
        have hi := (Tryd.strings_Index_one (bstr (Ex.joinDot (x :: y :: r))) 46 wr).mono (R' := fun e w' => e = .returned (.int .i64 (x.length : Int)) ∧ w' = wr) (fun e w' ⟨h1, h2⟩ => ⟨by rw [h1]; exact congrArg (fun z => Ending.returned (Value.int .i64 z)) (indexDot_more x y r hx10), h2⟩)
        have hlx : (Ex.joinDot (x :: y :: r)).length = x.length + 1 + (Ex.joinDot (y :: r)).length := by
          rw [Ex.joinDot_cons x _ (by simp), List.length_append, List.length_cons]; omega
        have ht1 : (bstr (Ex.joinDot (x :: y :: r))).extract 0 x.length = bstr x := by
          rw [bstr_cut, Ex.joinDot_cons x _ (by simp)]
          simp
        have ht2 : (bstr (Ex.joinDot (x :: y :: r))).extract (x.length + 1) (x.length + 1 + (Ex.joinDot (y :: r)).length) = bstr (Ex.joinDot (y :: r)) := by
          rw [bstr_cut, Ex.joinDot_cons x _ (by simp), show x.length + 1 + (Ex.joinDot (y :: r)).length - (x.length + 1) = (Ex.joinDot (y :: r)).length by omega, ← List.drop_drop, List.drop_left, List.drop_succ_cons, List.drop_zero, List.take_length]
        have hS' := hS
        have hneg : decide ((x.length : Int) < 0) = false := decide_eq_false (by omega)
        generalize hZ : Ex.joinDot (x :: y :: r) = Z at *
        generalize hZ2 : Ex.joinDot (y :: r) = Z2 at *
        have HI := Lib.hid hi
        have HYX := Lib.hid hyx
        have HZ := Lib.hid hZ
        have HZ2 := Lib.hid hZ2
        clear hi hyx hS' hZ hZ2
        gi_wp2
        refine ⟨trivial, (callsIn_wide.2 HI.out).mono ?_⟩
        rintro e w1 ⟨rfl, rfl⟩
        obtain ⟨fn, tmps, assign, body, hy, hR⟩ := HYX.out
        have HRR := Lib.hid hR
        clear hR
        gi_wp2
        refine HRR.out.mono ?_
        rintro e w2 (⟨rfl, hj, hk⟩ | ⟨rfl, hj⟩)
        · have hS2 := hS.of hk
          have d1 := hS2.txt.cell0 0 (by simp)
          have d2 := hS2.sep.cell0 0 (by simp)
          simp only [List.getElem_cons_zero] at d1 d2
          have f2 := hS2.txt.frozen0 0 (by simp)
          have hgr : w2.grownBy (w2.setCell ⟨B, 0, none⟩ (.string (bstr Z2))) (some B) := grownBy_setCell' w2 B _
          have hj2 := hJB _ _ _ _ hj hgr (fun k e => by cases e; rfl)
          have hT2 := hS2.txt.set0 0 (by simp) (.string (bstr Z2))
          have hS3 : SeqB (w2.setCell ⟨B, 0, none⟩ (.string (bstr Z2))) B Z2 := ⟨hT2, hS2.sep.far (by simp) _, hS2.sav.far (by simp) _⟩
          have hc0 := hS3.txt.cell0 0 (by simp)
          simp only [List.getElem_cons_zero] at hc0
          have HC1 := Lib.hid c1; have HC0 := Lib.hid hc0
          clear hS2 hT2 hgr hk c1 c2 c3 f1 hj hc0
          gi_wp2
          refine ⟨⟨pre ++ [x], y :: r, by rw [← hpr]; simp, by simp, hj2, by rw [HZ2.out]; exact hS3, by rw [HZ2.out]; omega⟩, ?_⟩
          rw [HC0.out, HC1.out]
          simp only [bstr_size]
          omega
        · gi_wp2
          exact bodyPost_ret (results_none rfl _ _ _) rfl ⟨⟨_, rfl⟩, .inr ⟨_, hj⟩⟩
end Go.Proofs.YtnmbakibiaedhaaDoor
