/- suffix.Sort: the row of ends, sorted by the closure. -/
import Derived.Test.YtenhblpegobbjaaSufA
import Derived.Test.YtenhblpegobbjaaSortI
import Derived.Laws.StructEq
import Derived.Laws.Tables
namespace Go.Proofs.Ytenhblpegobbjaa
open Go.RowKit
set_option linter.unusedVariables false
set_option linter.unusedSimpArgs false
open Suf
set_option maxRecDepth 100000 in
theorem eqPair (a b c d : Int) (w : World) : (Op.equalIn 10000 126 (.agg #[.int .i64 a, .int .i64 b]) (.agg #[.int .i64 c, .int .i64 d])).run Try.prog w = .ok (a == c && b == d) w := by
  have u3 := Try.underlying3
  have a3 := Try.isAgg3
  have z3 := Try.sizeOf3
  rw [show (10000 : Nat) = 9999 + 1 from rfl, Op.equalIn]
  simp only [Sem.run_bind, run_underlying Try.underlying126, Result.andThen_ok]
  simp only [Std.Legacy.Range.forIn_eq_forIn_range', Std.Legacy.Range.size, Nat.sub_zero, Nat.add_sub_cancel, Nat.div_one, List.range'_succ, List.range'_zero, List.forIn_cons, List.forIn_nil]
  go_simp
  by_cases h1 : a = c <;> by_cases h2 : b = d <;> simp [h1, h2]
def CmpIs : Prop := ∀ (V : World) (kb nb cb rb fb k : Nat) (s : List UInt8) (R : List Nat), KeyAt V kb nb cb rb k s R → RowAt V fb 0 132 [.func (.func 86) #[] #[.pointer (some ⟨kb, 0, none⟩), .pointer (some ⟨nb, 0, none⟩), .pointer (some ⟨cb, 0, none⟩)]] → ∀ (i j : Nat), i < s.length → j < s.length →
    Calls Try.prog 88 #[.int .i64 (i : Nat), .int .i64 (j : Nat), .pointer (some ⟨fb, 0, none⟩)] V fun e w' => e = .returned (.int .i64 (cmpK s k R i j)) ∧ Grew V w'
/-- a place in a row of n, whatever the number -/
def clip (n i : Nat) : Nat := if i < n then i else 0
def encN (n i : Nat) : Value := .int .i64 ((clip n i : Nat) : Int)
theorem clip_lt (n i : Nat) (h : 0 < n) : clip n i < n := by unfold clip; split <;> omega
theorem clip_of (n i : Nat) (h : i < n) : clip n i = i := if_pos h
theorem rowSort {w : World} {e : TypeId} {g m : Nat} {d' : List Nat} {n : Nat} {os : Array Obj} {xs : List Value} (h : RowAt w g 0 e xs) (hl : d'.length = xs.length) :
    RowAt (sortWorld (encN n) w g 0 m d'.toArray os) g 0 e (d'.map (encN n)) ∧ w.grownBy (sortWorld (encN n) w g 0 m d'.toArray os) (some g) := by
  have hlt := h.lt
  obtain ⟨cur, fz, h1, h2, h3⟩ := h
  constructor
  · refine ⟨Go.Sort.putCells (encN n) 0 d'.toArray cur, fz, ?_, fun i hi => ?_, fun i hi => h3 i (by rw [List.length_map] at hi; omega)⟩
    · show ((w.heap.modify g _) ++ os)[g]? = _
      rw [Array.getElem?_append_left (by rw [Array.size_modify]; exact hlt), Array.getElem?_modify, if_pos rfl, h1]
      rfl
    · rw [List.length_map] at hi
      have hci := h2 i (by omega)
      rw [List.getElem?_eq_getElem (by omega : i < xs.length)] at hci
      unfold Go.Sort.putCells
      rw [Array.getElem?_mapIdx, hci, Option.map_some]
      rw [if_pos ⟨by omega, by simp; exact hi⟩, List.getElem?_map, List.getElem?_eq_getElem hi]
      simp only [Nat.zero_add, Nat.sub_zero, Option.map_some, Option.some.injEq]
      congr 1
      rw [getElem!_pos d'.toArray i (by simpa using hi)]
      simp
  · refine ⟨rfl, rfl, rfl, ?_, fun k hk hne => ?_⟩
    · show w.heap.size ≤ ((w.heap.modify g _) ++ os).size
      rw [Array.size_append, Array.size_modify]; omega
    · show ((w.heap.modify g _) ++ os)[k]? = _
      rw [Array.getElem?_append_left (by rw [Array.size_modify]; omega), Array.getElem?_modify, if_neg (by rintro rfl; exact hne rfl)]
theorem KeyAt.swap {V W : World} {kb nb cb rb k : Nat} {s : List UInt8} {R : List Nat} {g : Nat} (h : KeyAt V kb nb cb rb k s R) (hg : V.grownBy W (some g)) (h1 : kb ≠ g) (h2 : nb ≠ g) (h3 : cb ≠ g) (h4 : rb ≠ g) : KeyAt W kb nb cb rb k s R :=
  ⟨h.rk.of_heap (hg.block kb h.rk.lt (by intro e; injection e with e; exact h1 e)), h.rn.of_heap (hg.block nb h.rn.lt (by intro e; injection e with e; exact h2 e)), h.rc.of_heap (hg.block cb h.rc.lt (by intro e; injection e with e; exact h3 e)), h.rr.of_heap (hg.block rb h.rr.lt (by intro e; injection e with e; exact h4 e)), h.len, h.small, h.hk, h.hs⟩
def cfK (s : List UInt8) (k : Nat) (R : List Nat) (n i j : Nat) : Int := cmpK s k R (clip n i) (clip n j)
instance (s : List UInt8) (k : Nat) (R : List Nat) (i j : Nat) : Decidable (lessK s k R i j) := by unfold lessK; exact inferInstance
theorem ltK (s : List UInt8) (k : Nat) (R : List Nat) (n i j : Nat) : Go.Proofs.ltOf (cfK s k R n) i j = decide (lessK s k R (clip n i) (clip n j)) := by
  have e : (cfK s k R n i j < 0) ↔ lessK s k R (clip n i) (clip n j) := by
    unfold cfK cmpK lessK
    by_cases h : R.getD (clip n i) 0 = R.getD (clip n j) 0
    · rw [if_pos h]; omega
    · rw [if_neg h]; omega
  unfold Go.Proofs.ltOf
  exact decide_eq_decide.2 e
theorem swoK (s : List UInt8) (k : Nat) (R : List Nat) (n : Nat) : Go.Sort.SWO (Go.Proofs.ltOf (cfK s k R n)) where
  irrefl x := by rw [ltK]; unfold lessK; simp
  trans x y z h1 h2 := by rw [ltK, decide_eq_true_eq] at *; unfold lessK at *; omega
  ntrans x y z h1 h2 := by rw [ltK, decide_eq_false_iff_not] at *; unfold lessK at *; omega
set_option maxRecDepth 100000 in
set_option maxHeartbeats 1000000 in
theorem sort_ends (HC : CmpIs) (V : World) (kb nb cb rb fb ga k : Nat) (s : List UInt8) (R A : List Nat) (hK : KeyAt V kb nb cb rb k s R) (hf : RowAt V fb 0 132 [.func (.func 86) #[] #[.pointer (some ⟨kb, 0, none⟩), .pointer (some ⟨nb, 0, none⟩), .pointer (some ⟨cb, 0, none⟩)]])
    (h1 : kb ≠ ga) (h2 : nb ≠ ga) (h3 : cb ≠ ga) (h4 : rb ≠ ga) (h5 : fb ≠ ga) (hA : RowAt V ga 0 3 (nvals .i64 A)) (hp : A.Perm (List.range s.length)) (hR : RankOk s k R) (hk : 0 < k) :
    Calls Try.prog 87 #[.slice (some ⟨ga, 0, none⟩) s.length s.length, .func (.func 88) #[] #[.pointer (some ⟨fb, 0, none⟩)]] V fun e w' => e = .returned (.tuple #[]) ∧ ∃ A' : List Nat, A'.Perm (List.range s.length) ∧ (∀ x y, x ≤ y → y < A'.length → fm s (2 * k) (A'.getD x 0) ≤ fm s (2 * k) (A'.getD y 0)) ∧ RowAt w' ga 0 3 (nvals .i64 A') ∧ V.grownBy w' (some ga) := by
  have hAl : A.length = s.length := by rw [hp.length_eq, List.length_range]
  by_cases h0 : s.length = 0
  · have hcon := AnyF.slices_SortFunc_none (P := Try.prog) (ρ := Try.sortI_ren) { Try.sortI with } (some ⟨ga, 0, none⟩) s.length (.func (.func 88) #[] #[.pointer (some ⟨fb, 0, none⟩)]) V
    change Calls Try.prog 87 _ _ _ at hcon
    rw [h0] at hcon ⊢
    refine hcon.mono ?_
    rintro e w' ⟨rfl, rfl⟩
    refine ⟨rfl, A, by rw [← h0]; exact hp, fun x y hxy hy => ?_, hA, grown_refl _ _⟩
    omega
  · have hpos : 0 < s.length := by omega
    have hmem : ∀ x ∈ A, x < s.length := fun x hx => List.mem_range.1 (hp.mem_iff.1 hx)
    have hrow : A.map (encN s.length) = nvals .i64 A := by
      unfold nvals
      apply List.map_congr_left
      intro x hx
      unfold encN
      rw [clip_of _ _ (hmem x hx)]
    have eg : ∀ args w, (callFunc 88 args).run Try.prog w = .ok (.enter 88 args) w := enters_of Try.func88 (by kernel_rfl) rfl
    have hcl : CmpLays1 Try.prog 88 #[.pointer (some ⟨fb, 0, none⟩)] (encN s.length) (cfK s k R s.length) ga 0 A.toArray.size V := by
      intro m os dk hs x y
      have hgr := (rowSort (m := m) (os := os) (d' := dk.toList) (n := s.length) hA (by rw [nvals_length]; simpa using hs)).2
      rw [Array.toArray_toList] at hgr
      have hc := HC _ kb nb cb rb fb k s R (hK.swap hgr h1 h2 h3 h4) (hf.of_heap (hgr.block fb hf.lt (by intro e; injection e with e; exact h5 e))) (clip s.length x) (clip s.length y) (clip_lt _ _ hpos) (clip_lt _ _ hpos)
      exact hc.mono fun e w' ⟨h7, h8⟩ => ⟨h7, h8.grow⟩
    have hH : Go.Sort.Holds (encN s.length) V ga 0 A.toArray := by
      intro j hj
      have hj2 : j < A.length := by simpa using hj
      have hc := hA.cell j (by rw [nvals_length]; exact hj2)
      have hfz := hA.frozen j (by rw [nvals_length]; exact hj2)
      refine ⟨?_, hfz⟩
      rw [hc]
      congr 1
      rw [getElem!_pos A.toArray j hj]
      unfold encN nvals
      rw [List.getElem_map]
      simp only [List.getElem_toArray]
      rw [clip_of _ _ (hmem _ (List.getElem_mem hj2))]
    have hcon := Any.slices_SortFunc (P := Try.prog) (ρ := Try.sortI_ren) Try.sortI (encN s.length) (fun _ => rfl) (cfK s k R s.length) (swoK s k R s.length) 88 #[.pointer (some ⟨fb, 0, none⟩)] ga 0 s.length A.toArray V eg hcl hH hA.lt (by have := hK.hs; simp; omega)
    clear eg hcl hH
    change Calls Try.prog 87 _ _ _ at hcon
    rw [show A.toArray.size = s.length from by simp [hAl]] at hcon
    refine hcon.mono ?_
    rintro e w' ⟨rfl, d', m, os, hpm, hs, rfl⟩
    have hsize : d'.toList.length = A.length := by have := hpm.1; rw [Array.length_toList, this]; simp
    have hr := rowSort (m := m) (os := os) (d' := d'.toList) (n := s.length) hA (by rw [nvals_length]; exact hsize)
    rw [Array.toArray_toList] at hr
    have hperm := hpm.2.2
    have ed : d'.extract 0 s.length = d' := Array.extract_eq_self_of_le (by rw [hpm.1]; simp [hAl])
    have ea : A.toArray.extract 0 s.length = A.toArray := Array.extract_eq_self_of_le (by simp [hAl])
    rw [ed, ea] at hperm
    have hp2 : d'.toList.Perm (List.range s.length) := hperm.trans hp
    have hmem2 : ∀ x ∈ d'.toList, x < s.length := fun x hx => List.mem_range.1 (hp2.mem_iff.1 hx)
    have hrow2 : d'.toList.map (encN s.length) = nvals .i64 d'.toList := by
      unfold nvals
      apply List.map_congr_left
      intro x hx
      unfold encN
      rw [clip_of _ _ (hmem2 x hx)]
    rw [hrow2] at hr
    refine ⟨rfl, d'.toList, hp2, fun x y hxy hy => ?_, hr.1, hr.2⟩
    rcases Nat.lt_or_eq_of_le hxy with h | rfl
    · have hsz : d'.size = s.length := by rw [← Array.length_toList, hsize, hAl]
      have hy2 : y < d'.size := by simpa using hy
      have h9 := hs x y (Nat.zero_le _) h (by rw [← hsz]; exact hy2)
      rw [getElem!_pos d' x (by omega), getElem!_pos d' y hy2, ltK, decide_eq_false_iff_not] at h9
      have m1 : d'[x] < s.length := hmem2 _ (by simp)
      have m2 : d'[y] < s.length := hmem2 _ (by simp)
      rw [clip_of _ _ m1, clip_of _ _ m2, lessK_iff s hR hk m2 m1] at h9
      rw [List.getD_eq_getElem?_getD, List.getD_eq_getElem?_getD, List.getElem?_eq_getElem (by omega : x < d'.toList.length), List.getElem?_eq_getElem hy]
      simp only [Option.getD_some, Array.getElem_toList]
      omega
    · exact Nat.le_refl _
end Go.Proofs.Ytenhblpegobbjaa
