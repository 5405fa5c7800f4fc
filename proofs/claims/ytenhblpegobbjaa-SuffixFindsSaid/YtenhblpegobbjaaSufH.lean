/- suffix.Find: the closure, and where it finds. -/
import Derived.Test.YtenhblpegobbjaaSufD
import Derived.Test.YtenhblpegobbjaaPlainSuffix4
import Derived.Test.YtenhblpegobbjaaShelfSf
import Derived.Test.YtenhblpegobbjaaSearchF
namespace Go.Proofs.Ytenhblpegobbjaa
open Go.RowKit
set_option linter.unusedVariables false
set_option linter.unusedSimpArgs false
open Suf
theorem str_drop (l : List UInt8) (j : Nat) : (bstr l).extract j l.length = bstr (l.drop j) := by
  apply ByteArray.ext
  apply Array.ext'
  rw [ByteArray.data_extract, Array.toList_extract]
  show List.extract l j l.length = l.drop j
  rw [List.extract_eq_take_drop]
  exact List.take_of_length_le (by rw [List.length_drop]; exact Nat.le_refl _)
set_option maxRecDepth 100000 in
theorem find_at (V : World) (sb : Nat) (l p : List UInt8) (hb : RowAt V sb 0 9 [.string (bstr l)]) (i : Nat) (hi : i < l.length) (hl : l.length ≤ 4000) :
    Calls Try.prog 81 #[.int .i64 (i : Nat), .string (bstr p), .pointer (some ⟨sb, 0, none⟩)] V fun e w' => e = .returned (.int .i64 (Lib.compareBytes (l.drop i) p)) ∧ w' = V := by
  have hc := hb.cell0 0 (by simp)
  simp only [List.getElem_cons_zero] at hc
  have hx := str_drop l i
  have hle : (i : Int) ≤ (l.length : Int) := by omega
  have HC : Hid (Calls Try.prog 82 #[.string (bstr (l.drop i)), .string (bstr p)] V fun e w' => e = .returned (.int .i64 (Lib.compareBytes (l.drop i) p)) ∧ w' = V) := Lib.hid (Try.strings_Compare (bstr (l.drop i)) (bstr p) V)
  generalize l.drop i = q at *
  go_enter Try.func81, Try.ntmps81
  go_wp2_with (go_at_call 82; refine HC.out.mono ?_; rintro e w9 ⟨rfl, rfl⟩)
  go_ret
  exact ⟨rfl, rfl⟩
set_option maxRecDepth 100000 in
set_option maxHeartbeats 1000000 in
theorem search_ends (V : World) (sb ga : Nat) (l p : List UInt8) (A : List Nat) (hS : Sorted l A) (hl : l.length ≤ 4000) (hb : RowAt V sb 0 9 [.string (bstr l)]) (hA : RowAt V ga 0 3 (nvals .i64 A)) (hne : sb ≠ ga) :
    Calls Try.prog 80 #[.slice (some ⟨ga, 0, none⟩) l.length l.length, .string (bstr p), .func (.func 81) #[] #[.pointer (some ⟨sb, 0, none⟩)]] V fun e w' => ∃ f : Bool, e = .returned (.tuple #[.int .i64 (A.countP fun i => decide (Lib.compareBytes (l.drop i) p < 0) : Nat), .bool f]) ∧ RowAt w' ga 0 3 (nvals .i64 A) ∧ V.grownBy w' (some ga) := by
  have hAl := hS.length
  by_cases h0 : l.length = 0
  · have hcon := Any.slices_BinarySearchFunc_none (P := Try.prog) (ρ := Try.searchF_ren) Try.searchF (some ⟨ga, 0, none⟩) l.length (.string (bstr p)) (.func (.func 81) #[] #[.pointer (some ⟨sb, 0, none⟩)]) V
    change Calls Try.prog 80 _ _ _ at hcon
    obtain rfl : A = [] := List.eq_nil_of_length_eq_zero (by omega)
    rw [h0] at hcon ⊢
    refine hcon.mono ?_
    rintro e w' ⟨rfl, rfl⟩
    exact ⟨false, rfl, hA, grown_refl _ _⟩
  · have hpos : 0 < l.length := by omega
    have hmem : ∀ x ∈ A, x < l.length := fun x hx => List.mem_range.1 (hS.1.mem_iff.1 hx)
    have eg : ∀ args w, (callFunc 81 args).run Try.prog w = .ok (.enter 81 args) w := enters_of Try.func81 (by kernel_rfl) rfl
    have hcl : CmpLaysT Try.prog 81 #[.pointer (some ⟨sb, 0, none⟩)] (encN l.length) (.string (bstr p)) (fun i => Lib.compareBytes (l.drop (clip l.length i)) p) ga 0 A.toArray.size V := by
      intro m os dk hs x
      have hgr := (rowSort (m := m) (os := os) (d' := dk.toList) (n := l.length) hA (by rw [nvals_length]; simpa using hs)).2
      rw [Array.toArray_toList] at hgr
      have hc := find_at _ sb l p (hb.of_heap (hgr.block sb hb.lt (by intro e; injection e with e; exact hne e))) (clip l.length x) (clip_lt _ _ hpos) hl
      exact hc.mono fun e w' ⟨h7, h8⟩ => ⟨h7, 0, #[], by rw [h8]; simp; rfl⟩
    have hH : Go.Sort.Holds (encN l.length) V ga 0 A.toArray := by
      intro j hj
      have hj2 : j < A.length := by simpa using hj
      have hc := hA.cell j (by rw [nvals_length]; exact hj2)
      have hfz := hA.frozen j (by rw [nvals_length]; exact hj2)
      refine ⟨?_, hfz⟩
      rw [hc]
      congr 1
      rw [getElem!_pos A.toArray j hj]
      unfold encN nvals
      rw [List.getElem_map]
      simp only [List.getElem_toArray]
      rw [clip_of _ _ (hmem _ (List.getElem_mem hj2))]
    have hcon := Any.slices_BinarySearchFunc (P := Try.prog) (ρ := Try.searchF_ren) Try.searchF (encN l.length) (fun _ => rfl) (.string (bstr p)) (fun i => Lib.compareBytes (l.drop (clip l.length i)) p) 81 #[.pointer (some ⟨sb, 0, none⟩)] ga 0 l.length A.toArray V eg hcl hH hA.lt (by simp; omega) (by
      intro a b hab hbs h
      have hb2 : b < A.length := by simpa using hbs
      have ha2 : a < A.length := by omega
      have hgA : ∀ j, (h9 : j < A.length) → A.toArray[j]! = A.getD j 0 := by
        intro j h9
        rw [getElem!_pos A.toArray j (by simpa using h9), List.getD_eq_getElem?_getD, List.getElem?_eq_getElem h9]
        simp
      simp only [hgA b hb2, hgA a ha2] at h ⊢
      rw [clip_of _ _ (hS.mem l b (by omega))] at h
      rw [clip_of _ _ (hS.mem l a (by omega))]
      exact below_first l hS p a b hab (by omega) h)
    clear eg hcl hH
    change Calls Try.prog 80 _ _ _ at hcon
    rw [show A.toArray.size = l.length from by simp [hAl]] at hcon
    refine hcon.mono ?_
    rintro e w' ⟨he, m, os, hw⟩
    have hr := rowSort (m := m) (os := os) (d' := A) (n := l.length) hA (by rw [nvals_length])
    have hrow : A.map (encN l.length) = nvals .i64 A := by
      unfold nvals
      apply List.map_congr_left
      intro x hx
      unfold encN
      rw [clip_of _ _ (hmem x hx)]
    rw [hrow] at hr
    have hcp : (A.toArray.toList.countP fun x => decide (Lib.compareBytes (l.drop (clip l.length x)) p < 0)) = A.countP fun i => decide (Lib.compareBytes (l.drop i) p < 0) := by
      apply List.countP_congr
      intro x hx
      rw [clip_of _ _ (hmem x (by simpa using hx))]
    rw [hcp] at he
    refine ⟨_, he, ?_, ?_⟩
    · rw [hw]; exact hr.1
    · rw [hw]; exact hr.2
end Go.Proofs.Ytenhblpegobbjaa
