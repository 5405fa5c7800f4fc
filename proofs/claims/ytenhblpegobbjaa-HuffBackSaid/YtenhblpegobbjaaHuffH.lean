/- Contract of huff.Count. -/
import Derived.Test.YtenhblpegobbjaaHuffA
import Derived.Test.YtenhblpegobbjaaPlainHuff7
namespace Go.Proofs.Ytenhblpegobbjaa
open Go.RowKit
set_option linter.unusedVariables false
set_option linter.unusedSimpArgs false
namespace Huff
/-- how often each byte stands -/
def counts (l : List UInt8) : List Nat := (List.range 256).map fun c => l.countP fun x => decide (x.toNat = c)
theorem counts_length (l : List UInt8) : (counts l).length = 256 := by simp [counts]
theorem counts_get (l : List UInt8) (c : Nat) (h : c < 256) : (counts l).getD c 0 = l.countP fun x => decide (x.toNat = c) := by
  rw [List.getD_eq_getElem?_getD, List.getElem?_eq_getElem (by rw [counts_length]; exact h)]
  simp [counts]
set_option maxRecDepth 100000 in
theorem counts_snoc (l : List UInt8) (x : UInt8) : counts (l ++ [x]) = (counts l).set x.toNat ((counts l).getD x.toNat 0 + 1) := by
  apply List.ext_getElem
  · rw [List.length_set, counts_length, counts_length]
  · intro c h1 h2
    rw [counts_length] at h1
    rw [List.getElem_set]
    have e0 : ∀ m : List UInt8, (counts m)[c]'(by rw [counts_length]; exact h1) = m.countP fun y => decide (y.toNat = c) := by
      intro m
      unfold counts
      rw [List.getElem_map, List.getElem_range]
    rw [e0, e0, List.countP_append]
    by_cases hc : x.toNat = c
    · have e3 : ([x].countP fun y : UInt8 => decide (y.toNat = c)) = 1 := by rw [List.countP_cons, List.countP_nil, decide_eq_true hc]; rfl
      rw [if_pos hc, counts_get l _ x.toNat_lt, hc, e3]
    · have e3 : ([x].countP fun y : UInt8 => decide (y.toNat = c)) = 0 := by rw [List.countP_cons, List.countP_nil, decide_eq_false hc]; rfl
      rw [if_neg hc, e3, Nat.add_zero]
theorem counts_sum (l : List UInt8) : (counts l).sum = l.length := by
  induction l with
  | nil =>
    have : counts [] = List.replicate 256 0 := by decide +kernel
    rw [this]; decide +kernel
  | cons x l ih =>
    have h1 : counts (x :: l) = counts (l ++ [x]) := by
      unfold counts
      apply List.map_congr_left
      intro c _
      rw [List.countP_append, List.countP_cons]
      simp
    rw [h1, counts_snoc]
    have hx : x.toNat < (counts l).length := by rw [counts_length]; exact x.toNat_lt
    have key : ∀ (L : List Nat) (i : Nat), i < L.length → (L.set i (L.getD i 0 + 1)).sum = L.sum + 1 := by
      intro L
      induction L with
      | nil => intro i h; simp at h
      | cons a L ih =>
        intro i h
        cases i with
        | zero => simp; omega
        | succ i =>
          rw [List.set_cons_succ, List.sum_cons, List.sum_cons, List.getD_cons_succ, ih i (by simpa using h)]; omega
    rw [key _ _ hx, ih]; rfl
end Huff
open Huff in
set_option maxRecDepth 100000 in
set_option maxHeartbeats 2000000 in
theorem Count_any (l : List UInt8) (w : World) (h9 : l.length ≤ 100000) :
    Calls Try.prog 79 #[.string (bstr l)] w fun e w' => ∃ g, e = .returned (.slice (some ⟨g, 0, none⟩) 256 256) ∧ RowAt w' g 0 3 (nvals .i64 (counts l)) ∧ w.heap.size ≤ g ∧ Below w.heap.size w w' := by
  obtain ⟨i0, hi, hz0, hz1, hz2⟩ := info_parts infoI64
  go_enter Try.func79, Try.ntmps79
  go_wp2_with (with_reducible refine wpList_make0 _ rfl _ _ 34 rfl 3 i0 (.int .i64 0) Try.underlying34 hi hz0 hz1 rfl .i64 .i64 256 256 256 rfl rfl rfl rfl (by rw [hz2]; omega) (by unfold maxLen; omega) ?_; intro w1 hrow hb hsz)
  obtain ⟨g, hg⟩ : ∃ g, g = w.heap.size := ⟨_, rfl⟩
  rw [← hg] at hrow
  rw [← hg]
  have HG := Lib.hid hg; clear hg
  have hrow1 : RowAt w1 g 0 3 (nvals .i64 (counts (l.take 0))) := by
    have e : nvals .i64 (counts (l.take 0)) = List.replicate 256 (.int .i64 0) := by
      have h1 : counts (l.take 0) = List.replicate 256 0 := by rw [List.take_zero]; decide +kernel
      rw [h1]; simp [nvals]
    rw [e]; exact hrow
  have HR1 := Lib.hid hrow1; have HB1 := Lib.hid hb
  clear hrow hrow1 hb
  go_wp2_with fail
  go_loopw [8] (fun v8 wr => ∃ k : Nat, k ≤ l.length ∧ v8 = .int .i64 k ∧ Hid (RowAt wr g 0 3 (nvals .i64 (counts (l.take k)))) ∧ Hid (Below w.heap.size w wr)) (fun v8 _ => l.length - (intOf v8).toNat)
  case atStart => exact ⟨0, by omega, rfl, HR1, HB1⟩
  case round =>
    obtain ⟨k, hk, rfl, HR, HB⟩ := hrel
    by_cases hlt : k < l.length
    · have hki : (k : Int) < (l.length : Int) := by omega
      have hx : ∀ h : k < (bstr l).size, ((bstr l)[k]'h).toNat = (l.getD k 0).toNat := fun h => by
        rw [List.getD_eq_getElem?_getD, List.getElem?_eq_getElem hlt]; rfl
      have hxl := (l.getD k 0).toNat_lt
      have hsn : counts (l.take (k + 1)) = (counts (l.take k)).set (l.getD k 0).toNat ((counts (l.take k)).getD (l.getD k 0).toNat 0 + 1) := by
        have e : l.getD k 0 = l[k] := by rw [List.getD_eq_getElem?_getD, List.getElem?_eq_getElem hlt]; rfl
        rw [List.take_succ_eq_append_getElem hlt, counts_snoc, e]
      have hle : (counts (l.take k)).getD (l.getD k 0).toNat 0 ≤ 100000 := by
        rw [counts_get _ _ hxl]
        have := List.countP_le_length (p := fun y : UInt8 => decide (y.toNat = (l.getD k 0).toNat)) (l := l.take k)
        rw [List.length_take] at this; omega
      generalize (l.getD k 0).toNat = x at *
      have hc := HR.out.cell0 x (by rw [nvals_length, counts_length]; exact hxl)
      have hf := HR.out.frozen0 x (by rw [nvals_length, counts_length]; exact hxl)
      rw [nvals_get] at hc
      generalize hn : (counts (l.take k)).getD x 0 = n at *
      have hnx : RowAt (wr.setCell ⟨g, x, none⟩ (.int .i64 ((n : Int) + 1))) g 0 3 (nvals .i64 (counts (l.take (k + 1)))) := by
        rw [hsn]
        have h1 := HR.out.set0 x (by rw [nvals_length, counts_length]; exact hxl) (.int .i64 ((n : Int) + 1))
        have h2 : (nvals .i64 (counts (l.take k))).set x (.int .i64 ((n : Int) + 1)) = nvals .i64 ((counts (l.take k)).set x (n + 1)) := by
          unfold nvals
          rw [List.map_set]; rfl
        rw [h2] at h1
        exact h1
      have HNX := Lib.hid hnx
      have HBX := Lib.hid (HB.out.setCell (p := ⟨g, x, none⟩) (by rw [HG.out]; exact Nat.le_refl _) (.int .i64 ((n : Int) + 1)))
      have hx256 : (x : Int) < 256 := by omega
      clear hnx hsn hn HR1 HB1
      go_wp2_with fail
      go_roundw
      case rel => exact ⟨k + 1, by omega, by go_num, HNX, HBX⟩
      case measure => simp [intOf]; omega
    · obtain rfl : k = l.length := by omega
      have hd : decide ((l.length : Int) < (l.length : Int)) = false := by simp
      have hall : l.take l.length = l := List.take_length
      have HA := Lib.hid hall
      clear hall
      go_wp2_with fail
      go_ret
      rw [HA.out] at HR
      exact ⟨g, rfl, HR.out, by rw [HG.out]; exact Nat.le_refl _, HB.out⟩
end Go.Proofs.Ytenhblpegobbjaa
