/- The law FindMirror. -/
import Derived.Test.YtdjddiajnalffaaFindD
namespace Go.Proofs.Ytdjddiajnalffaa
open Go.RowKit
set_option linter.unusedVariables false
set_option linter.unusedSimpArgs false
/-- numbers that are turned round one by one -/
def flipTo (L : List Int) (d : Int) (k : Nat) : List Int := (L.take k).map (d - ·) ++ L.drop k
theorem flipTo_length (L : List Int) (d : Int) (k : Nat) : (flipTo L d k).length = L.length := by simp [flipTo]; omega
theorem flipTo_zero (L : List Int) (d : Int) : flipTo L d 0 = L := by simp [flipTo]
theorem flipTo_all (L : List Int) (d : Int) : flipTo L d L.length = L.map (d - ·) := by simp [flipTo]
theorem flipTo_get (L : List Int) (d : Int) (k : Nat) (h : k < L.length) : (flipTo L d k).getD k 0 = L.getD k 0 := by
  unfold flipTo
  simp only [List.getD_eq_getElem?_getD]
  rw [List.getElem?_append_right (by simp; omega)]
  simp [Nat.min_eq_left (Nat.le_of_lt h)]
theorem flipTo_step (L : List Int) (d : Int) (k : Nat) (h : k < L.length) : (flipTo L d k).set k (d - L.getD k 0) = flipTo L d (k + 1) := by
  unfold flipTo
  have hl : ((L.take k).map (d - ·)).length = k := by simp; omega
  rw [List.set_append_right _ _ (by omega), hl, Nat.sub_self, List.drop_eq_getElem_cons h, List.set_cons_zero, List.take_succ_eq_append_getElem h, List.map_append, List.append_assoc, List.getD_eq_getElem?_getD, List.getElem?_eq_getElem h]
  rfl
set_option maxRecDepth 100000 in
set_option maxHeartbeats 1000000 in
theorem FindMirror_walk (s p : ByteArray) (hs : s.size ≤ 140737488351232) (hp : p.size ≤ 140737488351232) (w : World) :
    Calls Try.prog 8 #[.string s, .string p] w fun e w' => e = .returned (.bool true) ∧ Below w.heap.size w w' := by
  have hlen : p.data.toList.length = p.size := data_length p
  have hsl : s.data.toList.length = s.size := data_length s
  by_cases hbad : p.size = 0 ∨ 60 < p.size ∨ 300 < s.size
  · clear hlen hsl
    by_cases h0 : p.size = 0
    · have hemp : p.toList.isEmpty = true := by
        rw [ByteArray.toList_eq]
        cases h : p.data.toList with
        | nil => rfl
        | cons x l => have := data_length p; rw [h] at this; simp at this; omega
      clear hbad h0
      go_enter Try.func8, Try.ntmps8
      go_wp2_with fail
      refine (found_any _).mono ?_
      rintro e w1 ⟨rfl, hb1⟩
      go_wp2_with fail
      go_ret
      exact ⟨rfl, hb1⟩
    · have hemp : p.toList.isEmpty = false := by
        rw [ByteArray.toList_eq]
        cases h : p.data.toList with
        | nil => have := data_length p; rw [h] at this; simp at this; omega
        | cons x l => rfl
      by_cases h60 : 60 < p.size
      · have hd1 : decide ((60 : Int) < (p.size : Int)) = true := by rw [decide_eq_true_eq]; omega
        clear hbad h0
        go_enter Try.func8, Try.ntmps8
        go_wp2_with fail
        refine (found_any _).mono ?_
        rintro e w1 ⟨rfl, hb1⟩
        go_wp2_with fail
        go_ret
        exact ⟨rfl, hb1⟩
      · have hd1 : decide ((60 : Int) < (p.size : Int)) = false := by rw [decide_eq_false_iff_not]; omega
        have hd2 : decide ((300 : Int) < (s.size : Int)) = true := by rw [decide_eq_true_eq]; omega
        clear hbad h0
        go_enter Try.func8, Try.ntmps8
        go_wp2_with fail
        refine (found_any _).mono ?_
        rintro e w1 ⟨rfl, hb1⟩
        go_wp2_with fail
        go_ret
        exact ⟨rfl, hb1⟩
  · have hp1 : 1 ≤ p.size := by omega
    have hp60 : p.size ≤ 60 := by omega
    have hs300 : s.size ≤ 300 := by omega
    have hemp : p.toList.isEmpty = false := by
      rw [ByteArray.toList_eq]
      cases h : p.data.toList with
      | nil => rw [h] at hlen; simp at hlen; omega
      | cons => rfl
    have hmir := Kmp.occ_mirror s.data.toList p.data.toList (by omega)
    rw [hsl, hlen] at hmir
    have HMIR := Lib.hid hmir; clear hmir
    clear hbad
    have hd1 : decide ((60 : Int) < (p.size : Int)) = false := by rw [decide_eq_false_iff_not]; omega
    have hd2 : decide ((300 : Int) < (s.size : Int)) = false := by rw [decide_eq_false_iff_not]; omega
    go_enter Try.func8, Try.ntmps8
    go_wp2_with fail
    refine (found_any _).mono ?_
    rintro e w1 ⟨rfl, hb1⟩
    go_wp2_with fail
    refine (All_any s p _ (by omega) hp1 (by omega)).mono ?_
    rintro e w2 ⟨a, ca, rfl, hoa, hb2⟩
    have hba2 := hoa.blk_lt
    go_wp2_with fail
    refine (mirrored_any s _ (by omega)).mono ?_
    rintro e w3 ⟨rfl, hb3⟩
    go_wp2_with fail
    refine (mirrored_any p _ (by omega)).mono ?_
    rintro e w4 ⟨rfl, hb4⟩
    go_wp2_with fail
    have hrl : (bstr p.data.toList.reverse).size = p.size := by rw [bstr_size, List.length_reverse, hlen]
    have hrs : (bstr s.data.toList.reverse).size = s.size := by rw [bstr_size, List.length_reverse, hsl]
    refine (All_any (bstr s.data.toList.reverse) (bstr p.data.toList.reverse) _ (by omega) (by omega) (by omega)).mono ?_
    rintro e w5 ⟨b, cb, rfl, hob, hb5⟩
    rw [hrs] at hob ⊢
    simp only [bstr_data] at hob ⊢
    have hla := Kmp.occ_length s.data.toList p.data.toList s.size
    have hlb := Kmp.occ_length s.data.toList.reverse p.data.toList.reverse s.size
    have hbd := fun (j : Nat) => Kmp.mem_occ s.data.toList.reverse p.data.toList.reverse (by rw [List.length_reverse, hlen]; exact hp1) j
    simp only [List.length_reverse, hlen, hsl] at hbd
    generalize Kmp.occ s.data.toList p.data.toList s.size = A at *
    generalize Kmp.occ s.data.toList.reverse p.data.toList.reverse s.size = C at *
    replace hoa := ((hoa.below hb3 (Nat.le_refl _)).below hb4 (Nat.le_refl _)).below hb5 (Nat.le_refl _)
    have hba : ∀ x, a = some x → x.block < w4.heap.size := fun x hx => Nat.lt_of_lt_of_le (hba2 x hx) (Nat.le_trans hb3.size hb4.size)
    have hb12 := hb1.trans (hb2.mono hb1.size)
    have hb13 := hb12.trans (hb3.mono hb12.size)
    have hb14 := hb13.trans (hb4.mono hb13.size)
    have hb := hb14.trans (hb5.mono hb14.size)
    have hz : w.heap.size ≤ w4.heap.size := hb14.size
    clear hb12 hb13 hb14 hba2
    clear hb1 hb2 hb3 hb4 hb5
    generalize hg : w4.heap.size = g at *
    have HG := Lib.hid hg; clear hg
    have hCb : ∀ i, i < C.length → C.getD i 0 + p.size ≤ s.size := by
      intro i hi
      refine ((hbd (C.getD i 0)).1 ?_).1
      rw [List.getD_eq_getElem?_getD, List.getElem?_eq_getElem hi]
      exact List.getElem_mem _
    have HCB := Lib.hid hCb; clear hCb hbd
    obtain ⟨D, hD⟩ : ∃ D, D = C.map fun (i : Nat) => (i : Int) := ⟨_, rfl⟩
    have hDl : D.length = C.length := by rw [hD]; simp
    have hDg : ∀ i, i < C.length → D.getD i 0 = ((C.getD i 0 : Nat) : Int) := by
      intro i hi
      rw [hD]
      simp [List.getD_eq_getElem?_getD, List.getElem?_eq_getElem hi]
    rw [← hD] at hob
    have HDG := Lib.hid hDg; clear hDg
    have HDL := Lib.hid hDl; clear hDl
    have HD := Lib.hid hD; clear hD
    have hfl := flipTo_length D ((s.size : Int) - (p.size : Int))
    have HFL := Lib.hid hfl; clear hfl
    go_wp2_with fail
    go_loopw [40] (fun i wr => ∃ k : Nat, k ≤ C.length ∧ i = .int .i64 k ∧ Owns wr g 3 1 b C.length cb (ivals (flipTo D ((s.size : Int) - (p.size : Int)) k)) ∧
        Owns wr w1.heap.size 3 1 a A.length ca (ivals (A.map fun (i : Nat) => (i : Int))) ∧ Below w.heap.size w wr) (fun i _ => C.length - (intOf i).toNat)
    case atStart => exact ⟨0, by omega, rfl, by rw [flipTo_zero]; exact hob, hoa, hb⟩
    case round =>
      clear hob hoa hb
      obtain ⟨k, hk, rfl, hob, hoa, hb⟩ := hrel
      by_cases hlt : k < C.length
      · have hex : ∃ gb, b = some ⟨gb, 0, none⟩ := by
          cases b with
          | none =>
            have := hob.of_none.1
            omega
          | some x => exact ⟨x.block, by rw [← hob.row.1]⟩
        obtain ⟨gb, rfl⟩ := hex
        have hgb := hob.lt.1
        have hgb : g ≤ gb := hgb
        have hc := hob.int k (by rw [HFL.out, HDL.out]; exact hlt)
        rw [flipTo_get _ _ _ (by rw [HDL.out]; exact hlt), HDG.out k hlt] at hc
        have hf := hob.row.2.2.2.2.frozen0 k (by rw [ivals_length, HFL.out, HDL.out]; exact hlt)
        have hst := flipTo_step D ((s.size : Int) - (p.size : Int)) k (by rw [HDL.out]; exact hlt)
        rw [HDG.out k hlt] at hst
        have HST := Lib.hid hst; clear hst
        have hcb := HCB.out k hlt
        have hkI : (k : Int) < (C.length : Int) := by omega
        generalize C.getD k 0 = j at *
        have hjI : (j : Int) + (p.size : Int) ≤ (s.size : Int) := by omega
        go_wp2_with fail
        go_roundw
        case rel =>
          refine ⟨k + 1, by omega, by go_num, ?_, ?_, ?_⟩
          · have h1 := hob.set k (by rw [ivals_length, HFL.out, HDL.out]; exact hlt) (.int .i64 ((s.size : Int) - (p.size : Int) - (j : Int)))
            rw [ivals_set, HST.out] at h1
            exact h1
          · refine hoa.far ?_ _
            intro x hx
            have h1 := hba x hx
            have h2 : x.block ≠ gb := by omega
            exact h2
          · exact hb.setCell (p := ⟨gb, k, none⟩) (show w.heap.size ≤ gb by omega) _
        case measure => simp [intOf]; omega
      · obtain rfl : k = C.length := by omega
        have hd : decide ((C.length : Int) < (C.length : Int)) = false := by simp
        have hob' : Owns wr g 3 1 b C.length cb (ivals (D.map (((s.size : Int) - (p.size : Int)) - ·))) := by
          have := hob
          rw [← HDL.out] at this ⊢
          rwa [flipTo_all] at this
        clear hob
        have hAB : (D.map (((s.size : Int) - (p.size : Int)) - ·)).reverse = A.map fun (i : Nat) => (i : Int) := by
          rw [HD.out, ← HMIR.out, List.map_map, List.map_reverse, List.map_map]
          congr 1
          apply List.map_congr_left
          intro j hj
          obtain ⟨i, hi, he⟩ := List.getElem_of_mem hj
          have := HCB.out i hi
          rw [List.getD_eq_getElem?_getD, List.getElem?_eq_getElem hi] at this
          simp only [Option.getD_some] at this
          rw [he] at this
          simp only [Function.comp]
          omega
        have HAB := Lib.hid hAB; clear hAB
        have hlt2 := hob'.blk_lt
        go_wp2_with fail
        refine (Reverse_any _ _ _ _ _ _ _ (by omega) hob').mono ?_
        rintro e w7 ⟨rfl, hob7, hg7⟩
        rw [HAB.out] at hob7
        have hoa7 := hoa.grown hg7 (by
          intro x hx
          have h1 := hba x hx
          cases b with
          | none => simp [blk]
          | some y =>
            have h2 := hob'.lt.1
            simp [blk]
            omega)
        have hb7 := below_blk hb hob' hz hb.size hg7
        clear hob' hlt2
        go_wp2_with fail
        refine (Equal_yes _ _ _ _ _ _ (A.map fun (i : Nat) => (i : Int)) _ (by simp) ?_ (by omega) hoa7.readsI hob7.readsI).mono ?_
        · have h1 := hob7.len
          have h2 : (ivals (A.map fun (i : Nat) => (i : Int))).length = A.length := by simp [ivals]
          omega
        rintro e w8 ⟨rfl, k3, rfl⟩
        go_wp2_with fail
        go_ret
        exact ⟨rfl, bdrewN hb7 _⟩
end Go.Proofs.Ytdjddiajnalffaa
