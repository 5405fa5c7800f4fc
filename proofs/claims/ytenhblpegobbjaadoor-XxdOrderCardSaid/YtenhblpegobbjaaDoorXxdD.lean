/- The law XxdOrder, walked. -/
import Derived.Test.YtenhblpegobbjaaDoorXxdC
import Derived.Test.YtenhblpegobbjaaDoorPlainXxdO
import Derived.ChangeAgain
import Derived.Deep.DeepCutAuto
namespace Go.Proofs.YtenhblpegobbjaaDoor
open Go.RowKit
set_option linter.unusedVariables false
set_option linter.unusedSimpArgs false
open Xx
theorem shaped_up {w w' : World} (h : w.ShapedOpen Tryd.prog) (hb : Below w.heap.size w w') : w'.ShapedOpen Tryd.prog := h.keptBut (hb.frame fun _ => False) (fun _ h => h.elim)
def strVals (L : List (List UInt8)) : List Value := L.map fun x => .string (bstr x)
theorem Split_nl (L : List (List UInt8)) (hL : L ≠ []) (hno : ∀ x ∈ L, 10 ∉ x) (hlen : (joinNl L).length ≤ 1000000) (w : World) (hsh : w.ShapedOpen Tryd.prog) :
    Calls Tryd.prog 10 #[.string (bstr (joinNl L)), .string (bstr [10])] w fun e w' => e = .returned (.slice (some ⟨w.heap.size, 0, none⟩) L.length L.length) ∧ RowAt w' w.heap.size 0 9 (strVals L) ∧ Below w.heap.size w w' ∧ w.heap.size < w'.heap.size := by
  refine (Tryd.strings_Split_shaped (bstr (joinNl L)) (bstr [10]) w hsh (by rw [bstr_size]; omega) (by decide)).mono ?_
  rintro e w' ⟨he, hw⟩
  obtain ⟨h1, h2⟩ := split_nl L hL hno
  have hl : L.length - 1 + 1 = L.length := by have := List.length_pos_iff.2 hL; omega
  rw [h1, hl] at he
  rw [h1, h2, List.map_map] at hw
  subst hw
  exact ⟨he, RowAt.new w 9 _, (Below.refl _ _).alloc (Nat.le_refl _) _, by simp⟩
theorem Index_two (c g at_ : Nat) (r : List UInt8) (w : World) (hl : (lineOf c g at_ r).length ≤ 100000) (hsh : w.ShapedOpen Tryd.prog) :
    Calls Tryd.prog 12 #[.string (bstr (lineOf c g at_ r)), .string { data := #[32, 32] }] w fun e w' => e = .returned (.int .i64 (Lib.index (lineOf c g at_ r) [32, 32])) ∧ w' = w :=
  Tryd.strings_Index_shaped (bstr (lineOf c g at_ r)) (bstr [32, 32]) w hsh (by rw [bstr_size]; omega)
theorem Index_two_ge (c g at_ : Nat) (r : List UInt8) : 0 ≤ Lib.index (lineOf c g at_ r) [32, 32] := by
  obtain ⟨p, q, h⟩ := line_two c g at_ r
  rw [h]
  exact index2_has p q
theorem below_cells {B g : Nat} (hg : B ≤ g) : ∀ (vs : List Value) (o : Nat) (w : World), Below B w (w.setCells g o vs)
  | [], _, w => Below.refl B w
  | v :: r, o, w => ((Below.refl B w).setCell (p := ⟨g, o, none⟩) hg v).trans (below_cells hg r (o + 1) _)
theorem Reverse_nl (L : List (List UInt8)) (g c : Nat) (B : Nat) (w : World) (hB : B ≤ g) (hn : L.length ≤ 100000) (hr : RowAt w g 0 9 (strVals L)) :
    Calls Tryd.prog 13 #[.slice (some ⟨g, 0, none⟩) L.length c] w fun e w' => e = .returned (.tuple #[]) ∧ (∀ j x, L.reverse[j]? = some x → w'.cell? ⟨g, j, none⟩ = some (.string (bstr x))) ∧ Below B w w' ∧ g < w'.heap.size := by
  have hlen : (strVals L).length = L.length := by simp [strVals]
  have hcell : ∀ i, i < L.length → w.cell? ⟨g, 0 + i, none⟩ = some (.string (bstr (L.getD i []))) := fun i hi => by
    have := hr.cell i (by omega)
    rw [this]
    simp [strVals, List.getD_eq_getElem?_getD, List.getElem?_eq_getElem hi]
  refine (Tryd.slices_Reverse_string_cells g 0 L.length c (fun i => bstr (L.getD i [])) w (by omega) hcell (fun j hj => hr.frozen j (by omega))).mono ?_
  rintro e w' ⟨he, q, rfl⟩
  have hs : Lib.strsOf (fun i => bstr (L.getD i [])) L.length = L := by
    unfold Lib.strsOf
    apply List.ext_getElem
    · simp
    · intro i h1 h2
      simp [List.getD_eq_getElem?_getD, List.getElem?_eq_getElem h2, bstr_data]
  rw [hs]
  refine ⟨he, fun j x hx => ?_, ?_, ?_⟩
  · have hj : j < L.reverse.length := by
      rcases Nat.lt_or_ge j L.reverse.length with h | h
      · exact h
      · rw [List.getElem?_eq_none h] at hx; cases hx
    have := World.cell?_setCells_in g (L.reverse.map encStr) 0 (w.drewN q) (fun i hi => by
      have h2 := hcell i (by simpa using hi)
      show (w.cell? ⟨g, 0 + i, none⟩).isSome = true
      rw [h2]; rfl) j (by simpa using hj)
    rw [Nat.zero_add] at this
    rw [this, List.getElem_map]
    rw [List.getElem?_eq_getElem hj] at hx
    cases hx
    rfl
  · exact (bdrewN (Below.refl B w) q).trans (below_cells hB _ _ _)
  · have h1 := hr.lt
    have h2 := (below_cells hB (L.reverse.map encStr) 0 (w.drewN q)).size
    exact Nat.lt_of_lt_of_le h1 h2
theorem Join_nl (L : List (List UInt8)) (g c : Nat) (w : World) (hc : L.length ≤ c) (hn : L.length ≤ 100000) (hl : (joinNl L).length ≤ 1000000) (hg : g < w.heap.size) (hcell : ∀ j x, L[j]? = some x → w.cell? ⟨g, j, none⟩ = some (.string (bstr x))) :
    Calls Tryd.prog 14 #[.slice (some ⟨g, 0, none⟩) L.length c, .string (bstr [10])] w fun e w' => e = .returned (.string (bstr (joinNl L))) ∧ Below w.heap.size w w' := by
  have hm : (L.map bstr).map (fun x : ByteArray => x.data.toList) = L := by
    rw [List.map_map]
    conv => rhs; rw [← List.map_id L]
    apply List.map_congr_left
    intro x _
    rfl
  have := Tryd.strings_Join g 0 c (L.map bstr) (bstr [10]) w (fun j x hx => by
    rw [List.getElem?_map, Option.map_eq_some_iff] at hx
    obtain ⟨y, hy, rfl⟩ := hx
    rw [Nat.zero_add]
    exact hcell j y hy) hg (by simp; omega) (by simpa using hc) (by rw [hm, show (bstr [10]).data.toList = [10] from rfl, join_nl]; omega)
  rw [hm, show (bstr [10]).data.toList = [10] from rfl, join_nl, List.length_map] at this
  exact this
theorem Trim_nl (s : List UInt8) (w : World) (hs : s.length ≤ 1000000) : Calls Tryd.prog 11 #[.string (bstr (s ++ [10])), .string (bstr [10])] w fun e w' => e = .returned (.string (bstr s)) ∧ w' = w := by
  have := Tryd.strings_TrimSuffix (bstr (s ++ [10])) (bstr [10]) w (by rw [bstr_size]; simp; omega)
  rw [show (bstr (s ++ [10])).data.toList = s ++ [10] from rfl, show (bstr [10]).data.toList = [10] from rfl, trim_nl] at this
  exact this
set_option maxRecDepth 100000 in
set_option maxHeartbeats 2000000 in
theorem XxdOrder_in (s : List UInt8) (cols : Int) (w : World) (hsh : w.ShapedOpen Tryd.prog) :
    Calls Tryd.prog 4 #[.string (bstr s), .int .i64 cols] w fun e w' => e = .returned (.bool true) ∧ Below w.heap.size w w' := by
  have HD := Lib.hid (fun w => dumped_any w)
  have HSH := Lib.hid hsh
  clear hsh
  by_cases hne : s = []
  · have hse : s.isEmpty = true := by rw [hne]; rfl
    clear hne
    go_enter Tryd.func4, Tryd.ntmps4
    go_wp2_with fail
    refine (HD.out _).mono ?_
    rintro e w1 ⟨rfl, hb1⟩
    go_wp2_with fail
    go_ret
    exact ⟨rfl, hb1⟩
  have hse : s.isEmpty = false := by cases s with | nil => exact absurd rfl hne | cons _ _ => rfl
  by_cases hs : 600 < s.length
  · have d1 : decide ((600 : Int) < (s.length : Int)) = true := decide_eq_true (by omega)
    have d1n : decide (600 < s.length) = true := decide_eq_true (by omega)
    clear hs hne
    go_enter Tryd.func4, Tryd.ntmps4
    go_wp2_with fail
    refine (HD.out _).mono ?_
    rintro e w1 ⟨rfl, hb1⟩
    go_wp2_with fail
    go_ret
    exact ⟨rfl, hb1⟩
  have d1 : decide ((600 : Int) < (s.length : Int)) = false := decide_eq_false (by omega)
  have d1n : decide (600 < s.length) = false := decide_eq_false (by omega)
  have hp1 := fun w1 => pick_at cols 256 256 w1 rfl (by decide) (by decide)
  have hl1 := pickN_lt cols 256 (by decide)
  obtain ⟨c, hc⟩ : ∃ c, c = pickN cols 256 + 1 := ⟨_, rfl⟩
  have e1 : (1 : Int) + (pickN cols 256 : Int) = (c : Int) := by rw [hc]; omega
  have hc1 : 1 ≤ c := by omega
  have hc2 : c ≤ 256 := by omega
  generalize pickN cols 256 = pc at *
  have hdu := fun w => Dump_any s c 1 w (by omega) hc1 hc2 (by omega) hc1
  have hdl := dump_length s c 1 (by omega) hc2 hc1 (rows s c)
  have hrf := rows_few s c hc1
  have hpos : 0 < rows s c := (rows_lt s c 0 hc1).2 (by have := List.length_pos_iff.2 hne; omega)
  obtain ⟨T, hT, hTs⟩ := turn_back s c (by omega) hne hc1 hc2
  obtain ⟨L, hL⟩ : ∃ L, L = linesOf s c 1 (rows s c) := ⟨_, rfl⟩
  have hLl : L.length = rows s c := by rw [hL]; simp [linesOf]
  have hLne : L ≠ [] := fun e => by rw [e] at hLl; simp at hLl; omega
  have hLat : ∀ i, i < L.length → L.getD i [] = lineOf c 1 (i * c) (row s c i) := fun i hi => by
    rw [hLl] at hi
    rw [hL]
    simp [linesOf, hi]
  have hno : ∀ x ∈ L, 10 ∉ x := fun x hx => by
    rw [hL] at hx
    unfold linesOf at hx
    rw [List.mem_map] at hx
    obtain ⟨k, _, rfl⟩ := hx
    exact lineOf_no c 1 _ _
  have hdump : dump s c 1 (rows s c) = joinNl L ++ [10] := by
    rw [← joinNl_more L hLne, hL]; rfl
  rw [hdump] at hdu hdl
  rw [← hL] at hT
  have hjl : (joinNl L).length ≤ 1000000 := by simp at hdl; omega
  have hjr := hT.all
  have htr := fun w => Trim_nl (joinNl L) w hjl
  have hsp := fun w h => Split_nl L hLne hno hjl w h
  have hln : L.length ≤ 600 := by omega
  have hlen : ∀ i, i < L.length → (lineOf c 1 (i * c) (row s c i)).length ≤ (lineOf c 1 (0 * c) (row s c 0)).length ∧ (lineOf c 1 (i * c) (row s c i)).length ≤ 100000 := fun i hi => by
    have h1 := lineOf_length c 1 (i * c) (by omega) (row s c i) (row_len s c i)
    have h2 := lineOf_length c 1 (0 * c) (by omega) (row s c 0) (row_len s c 0)
    have h3 := line_short s c 1 i hc2 (by omega) hc1
    have h4 : (row s c i).length ≤ (row s c 0).length := by
      unfold row
      rw [List.length_take, List.length_take, List.length_drop, List.length_drop]
      omega
    omega
  have hld := fun w => Load_any L.reverse T hT w
  rw [hTs] at hld
  have HP1 := Lib.hid hp1; have HDU := Lib.hid hdu; have HTR := Lib.hid htr; have HSP := Lib.hid hsp; have HLAT := Lib.hid hLat; have HLEN := Lib.hid hlen; have HLD := Lib.hid hld; have HNO := Lib.hid hno; have HJR := Lib.hid hjr
  have HPOS : Hid (0 < L.length) := Lib.hid (by omega)
  have hlr : L.reverse.length = L.length := List.length_reverse
  have HLR := Lib.hid hlr
  have hcat := cat1 (joinNl L) 10
  clear hp1 hdu hdl hrf hpos hT hTs hL hLl hLne hLat hno hdump hjr htr hsp hlen hld hc hs hne hl1 hlr hcat
  obtain ⟨J, hJ⟩ : ∃ J, J = joinNl L := ⟨_, rfl⟩
  have HJ := Lib.hid hJ
  rw [← hJ] at HDU HTR HSP hjl
  clear hJ
  go_enter Tryd.func4, Tryd.ntmps4
  go_wp2_with fail
  refine (HD.out _).mono ?_
  rintro e w1 ⟨rfl, hb1⟩
  have HB1 := Lib.hid hb1; clear hb1
  go_wp2_with fail
  refine (HP1.out _).mono ?_
  rintro e w2 ⟨rfl, rfl⟩
  go_wp2_with fail
  refine (HDU.out _).mono ?_
  rintro e w3 ⟨rfl, hb3⟩
  have HB3 := Lib.hid (HB1.out.trans (hb3.mono HB1.out.size)); clear hb3
  go_wp2_with fail
  refine (HTR.out _).mono ?_
  rintro e w4 ⟨rfl, rfl⟩
  go_wp2_with fail
  refine (HSP.out w4 (shaped_up HSH.out HB3.out)).mono ?_
  rintro e w5 ⟨rfl, hrow, hb5, hlt5⟩
  have HB5 := Lib.hid (HB3.out.trans (hb5.mono HB3.out.size))
  have HROW := Lib.hid hrow
  have HG : Hid (w.heap.size ≤ w4.heap.size) := Lib.hid HB3.out.size
  clear hb5 hrow
  generalize w4.heap.size = g at *
  go_wp2_with fail
  go_loopw [8] (fun v8 wr => ∃ i : Nat, 1 ≤ i ∧ i ≤ L.length ∧ v8 = .int .i64 (i : Int) ∧ ∃ q, Hid (wr = w5.drewN q)) (fun v8 _ => L.length - (intOf v8).toNat)
  case atStart => exact ⟨1, by omega, HPOS.out, rfl, 0, rfl⟩
  case round =>
    obtain ⟨i, hi1, hi, rfl, q, hw⟩ := hrel
    obtain rfl := hw.out
    by_cases hlt : i < L.length
    · have hki : (i : Int) < (L.length : Int) := by omega
      have h0 := HPOS.out
      have hvl : (strVals L).length = L.length := by simp [strVals]
      have hcell : ∀ k, k < L.length → (w5.drewN q).cell? ⟨g, k, none⟩ = some (.string (bstr (lineOf c 1 (k * c) (row s c k)))) := fun k hk => by
        have := HROW.out.cell0 k (by omega)
        rw [← HLAT.out k hk]
        refine (show (w5.drewN q).cell? ⟨g, k, none⟩ = _ from this).trans ?_
        simp [strVals, List.getD_eq_getElem?_getD, List.getElem?_eq_getElem hk]
      have hci := hcell i hlt
      have hc0 := hcell 0 h0
      obtain ⟨hll, hl9⟩ := HLEN.out i hlt
      have hix := fun k => Index_two c 1 (i * c) (row s c i) ((w5.drewN q).drewN k) hl9 (shaped_up HSH.out (bdrewN (bdrewN HB5.out q) k))
      have hge := Index_two_ge c 1 (i * c) (row s c i)
      generalize lineOf c 1 (i * c) (row s c i) = li at *
      generalize lineOf c 1 (0 * c) (row s c 0) = l0 at *
      generalize Lib.index li [32, 32] = z at *
      have dl : decide ((l0.length : Int) < (li.length : Int)) = false := decide_eq_false (by omega)
      have dln : decide (l0.length < li.length) = false := decide_eq_false (by omega)
      have dz : decide (z < 0) = false := decide_eq_false (by omega)
      have HIX := Lib.hid hix
      obtain ⟨wq, hwq⟩ : ∃ wq, wq = w5.drewN q := ⟨_, rfl⟩
      rw [← hwq] at hci hc0 HIX
      rw [← hwq]
      have HWQ := Lib.hid hwq
      clear hcell hix hge hll hl9 hwq
      go_wp2_with fail
      go_quiet (first | (go_at_call 12; with_reducible exact Calls.quiet_of_same (HIX.out _)))
      have HWN : Hid (wq.drewN nq = w5.drewN (q + nq)) := Lib.hid (by rw [HWQ.out]; exact World.drewN_drewN _ _ _)
      clear hci hc0 HIX
      generalize wq.drewN nq = w4' at *
      go_wp2_with fail
      go_roundw
      case rel => exact ⟨i + 1, by omega, by omega, by go_num, _, HWN⟩
      case measure => simp [intOf]; omega
    · obtain rfl : i = L.length := by omega
      have hd : decide ((L.length : Int) < (L.length : Int)) = false := by simp
      have HB6 := Lib.hid (bdrewN HB5.out q)
      have hrow6 : RowAt (w5.drewN q) g 0 9 (strVals L) := HROW.out.drewN q
      have hrv := Reverse_nl L g L.length w.heap.size (w5.drewN q) HG.out (by omega) hrow6
      have HRV := Lib.hid hrv
      clear hrow6 hrv
      generalize w5.drewN q = w6 at *
      go_wp2_with fail
      refine HRV.out.mono ?_
      rintro e w7 ⟨rfl, hcell7, hb7, hlt7⟩
      have HB7 := Lib.hid (HB6.out.trans hb7)
      have hjn := Join_nl L.reverse g L.length w7 (by rw [HLR.out]; exact Nat.le_refl _) (by rw [HLR.out]; omega) HJR.out hlt7 hcell7
      rw [HLR.out] at hjn
      have HJN := Lib.hid hjn
      clear hcell7 hb7 hjn
      go_wp2_with fail
      refine HJN.out.mono ?_
      rintro e w8 ⟨rfl, hb8⟩
      have HB8 := Lib.hid (HB7.out.trans (hb8.mono HB7.out.size)); clear hb8
      go_wp2_with fail
      refine (HLD.out _).mono ?_
      rintro e w9 ⟨rfl, hb9⟩
      have HB9 := Lib.hid (HB8.out.trans (hb9.mono HB8.out.size)); clear hb9
      have hee : (s == s) = true := by simp
      go_wp2_with fail
      go_ret
      exact ⟨rfl, HB9.out⟩
theorem XxdOrder_walk (s : ByteArray) (cols : Int) (hs : s.size ≤ 140737488351232) (h1 : -9223372036854775808 ≤ cols) (h2 : cols ≤ 9223372036854775807) (W : World) (hsh : W.ShapedOpen Tryd.prog) :
    Calls Tryd.prog 4 #[.string s, .int .i64 cols] W fun e w' => e = .returned (.bool true) ∧ Below W.heap.size W w' := by
  rw [eq_bstr s]
  exact XxdOrder_in s.data.toList cols W hsh
end Go.Proofs.YtenhblpegobbjaaDoor
