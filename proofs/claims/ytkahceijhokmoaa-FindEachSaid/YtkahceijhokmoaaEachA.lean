/- The law FindEach, walked. -/
import Derived.Test.YtkahceijhokmoaaSortMB
import Derived.Test.YtkahceijhokmoaaCfEach
import Derived.Test.YtkahceijhokmoaaFindDf
import Derived.Test.YtkahceijhokmoaaPick
namespace Go.Proofs.Ytkahceijhokmoaa
open Go.RowKit
set_option linter.unusedVariables false
set_option linter.unusedSimpArgs false
def psOf (ss : List ByteArray) (n : Nat) : List Aho.Wd := (ss.take n).map fun b => b.data.toList
theorem psOf_len {w : World} {a : Option Addr} {n c : Nat} {ss : List ByteArray} (h : IsStrs w a n c ss) : (psOf ss n).length = n := by
  unfold psOf
  have := h.len
  rw [List.length_map, List.length_take]; omega
theorem psOf_get {w : World} {a : Option Addr} {n c : Nat} {ss : List ByteArray} (h : IsStrs w a n c ss) (k : Nat) (hk : k < n) : (psOf ss n).getD k [] = (ss.getD k ByteArray.empty).data.toList := by
  unfold psOf
  have := h.len
  rw [List.getD_eq_getElem?_getD, List.getElem?_map, List.getElem?_take_of_lt hk, List.getElem?_eq_getElem (by omega), List.getD_eq_getElem?_getD, List.getElem?_eq_getElem (by omega)]
  rfl
theorem psOf_at {w : World} {a : Option Addr} {n c : Nat} {ss : List ByteArray} (h : IsStrs w a n c ss) : PsAt w a n (psOf ss n) := by
  refine ⟨psOf_len h, fun k hk => ?_⟩
  obtain ⟨x, h1, h2, h3, h4⟩ := h.cell k hk
  refine ⟨x, h1, h2, ?_⟩
  rw [h3, psOf_get h k hk]
  rfl
theorem psOf_fine {ss : List ByteArray} {n : Nat} (h : (ss.take n).any CfEach.p = false) : ∀ p ∈ psOf ss n, p ≠ [] ∧ p.length ≤ 30 := by
  intro p hp
  unfold psOf at hp
  obtain ⟨b, hb, rfl⟩ := List.mem_map.1 hp
  have h1 := List.any_eq_false.1 h b hb
  unfold CfEach.p at h1
  rw [Bool.or_eq_true, not_or] at h1
  obtain ⟨h2, h3⟩ := h1
  rw [decide_eq_true_eq] at h3
  constructor
  · intro e
    apply h2
    have hbe : b = bstr b.data.toList := rfl
    rw [hbe, e]
    decide +kernel
  · have : b.data.toList.length = b.size := data_length b
    omega
/-- what the law holds while it goes through the matches -/
structure EachS (w4 wr : World) (a : Option Addr) (m c : Nat) (L : List Nat) : Prop where
  own : Owns wr w4.heap.size 3 1 a m c (ivals (nints L))
  len : L.length = m
  bel : Below w4.heap.size w4 wr
set_option maxRecDepth 100000 in
set_option maxHeartbeats 4000000 in
theorem FindEach_walk (W0 : World) (s : ByteArray) (a0 : Option Addr) (n c0 : Nat) (ss : List ByteArray) (k0 : Int) (hs : s.size ≤ 140737488351232) (hss : IsStrs W0 a0 n c0 ss) (hk1 : -9223372036854775808 ≤ k0) (hk2 : k0 ≤ 9223372036854775807) :
    Calls Try.prog 3 #[.string s, .slice a0 n c0, .int .i64 k0] W0 fun e w' => e = .returned (.bool true) ∧ Below W0.heap.size W0 w' := by
  obtain ⟨l, rfl⟩ : ∃ l, s = bstr l := ⟨_, eq_bstr s⟩
  rw [bstr_size] at hs
  have HSS := Lib.hid hss
  have hn9 := hss.len
  clear hss
  go_enter Try.func3, Try.ntmps3
  go_wp2_with fail
  refine (found_any _).mono ?_
  rintro e w1 ⟨rfl, hb1⟩
  have HB1 := Lib.hid hb1
  clear hb1
  by_cases h2 : 200 < l.length
  · have d2 : decide ((200 : Int) < (l.length : Int)) = true := decide_eq_true (by omega)
    have d2n : decide (200 < l.length) = true := decide_eq_true h2
    clear h2
    go_wp2_with fail
    go_ret
    exact ⟨rfl, HB1.out⟩
  have d2 : decide ((200 : Int) < (l.length : Int)) = false := decide_eq_false (by omega)
  have d2n : decide (200 < l.length) = false := decide_eq_false h2
  by_cases h0 : n = 0
  · subst h0
    clear h2
    go_wp2_with fail
    go_ret
    exact ⟨rfl, HB1.out⟩
  have d0 : ((n : Int) == 0) = false := by rw [beq_eq_false_iff_ne]; omega
  have d0n : (n == 0) = false := by rw [beq_eq_false_iff_ne]; exact h0
  by_cases h3 : 20 < n
  · have d3 : decide ((20 : Int) < (n : Int)) = true := decide_eq_true (by omega)
    have d3n : decide (20 < n) = true := decide_eq_true h3
    clear h2 h3 h0
    go_wp2_with fail
    go_ret
    exact ⟨rfl, HB1.out⟩
  have d3 : decide ((20 : Int) < (n : Int)) = false := decide_eq_false (by omega)
  have d3n : decide (20 < n) = false := decide_eq_false h3
  have hl2 : l.length ≤ 200 := by omega
  have hn2 : n ≤ 20 := by omega
  have hn1 : 1 ≤ n := by omega
  clear h0 h2 h3
  have HS1 := Lib.hid (HSS.out.below HB1.out (Nat.le_refl _))
  go_wp2_with fail
  refine (CfEach.contains a0 n c0 ss w1 HS1.out).mono ?_
  rintro e w1' ⟨rfl, rfl⟩
  by_cases hbad : (ss.take n).any CfEach.p = true
  · rw [hbad]
    clear hbad
    go_wp2_with fail
    go_ret
    exact ⟨rfl, HB1.out⟩
  replace hbad : (ss.take n).any CfEach.p = false := by simpa using hbad
  rw [hbad]
  have hps1 := psOf_at HS1.out
  have hfine := psOf_fine hbad
  obtain ⟨ps, hpse⟩ : ∃ ps, ps = psOf ss n := ⟨_, rfl⟩
  rw [← hpse] at hps1 hfine
  have HPS1 := Lib.hid hps1; have HFI := Lib.hid hfine; have HPE := Lib.hid hpse
  clear hbad hps1 hfine hpse HS1 HSS
  go_wp2_with fail
  refine (Any_any sort_is w1 a0 n c0 ps l HPS1.out hn2 HFI.out hl2).mono ?_
  rintro e w2 ⟨a, m, c, S, rfl, hm9, hSl, hSp, hSs, hSr, hb2⟩
  have HPS2 := Lib.hid (HPS1.out.below hb2)
  have HB2 := Lib.hid (HB1.out.trans (hb2.mono HB1.out.size))
  have HSL := Lib.hid hSl; have HSP := Lib.hid hSp; have HSS := Lib.hid hSs; have HSR := Lib.hid hSr
  clear hSl hSp hSs hSr hb2 HB1 HPS1
  go_wp2_with fail
  refine (pick_at k0 _ n _ rfl hn1 (by omega)).mono ?_
  rintro e w2' ⟨rfl, rfl⟩
  have hwn := pickN_lt k0 n hn1
  obtain ⟨wh, hwh⟩ : ∃ wh, wh = pickN k0 n := ⟨_, rfl⟩
  rw [← hwh] at hwn ⊢
  have hwnI : (wh : Int) < (n : Int) := by omega
  obtain ⟨⟨pb, po, pv⟩, rfl, hpx, hpc⟩ := HPS2.out.2 wh hwn
  have hpf := HFI.out (ps.getD wh []) (by
    have hk2 : wh < ps.length := by rw [HPS2.out.1]; exact hwn
    rw [List.getD_eq_getElem?_getD, List.getElem?_eq_getElem hk2]
    exact List.getElem_mem hk2)
  have hso := Aho.sorted_only HSP.out HSS.out wh (by rw [HPS2.out.1]; exact hwn)
  obtain ⟨q, hq⟩ : ∃ q, q = ps.getD wh [] := ⟨_, rfl⟩
  rw [← hq] at hpc hpf hso
  have HSO := Lib.hid hso; have HPF := Lib.hid hpf
  clear hwh hq hpf hso hpx HFI HSP HSS
  go_wp2_with fail
  refine (All_any (bstr l) (bstr q) _ (by rw [bstr_size]; have := HPF.out.2; omega) (by rw [bstr_size]; have := HPF.out.1; cases q with | nil => exact absurd rfl this | cons => simp) (by rw [bstr_size]; omega)).mono ?_
  rintro e w4 ⟨a4, c4, rfl, ho4, hb4⟩
  obtain ⟨O, hO⟩ : ∃ O, O = Kmp.occ l q l.length := ⟨_, rfl⟩
  have e4 : Kmp.occ (bstr l).data.toList (bstr q).data.toList (bstr l).size = O := by rw [hO, bstr_size]; rfl
  rw [e4] at ho4 ⊢
  have hOl : O.length ≤ l.length := by rw [hO]; exact Kmp.occ_length l q l.length
  have HO4 : Hid (Owns w4 w2.heap.size 3 1 a4 O.length c4 (ivals (nints O))) := Lib.hid ho4
  have HB4 := Lib.hid (HB2.out.trans (hb4.mono HB2.out.size))
  have HSR4 : Hid (∀ j, j < m → ∃ g, a = some ⟨g, 0, none⟩ ∧ g < w4.heap.size ∧ w4.cell? ⟨g, j * 2, none⟩ = some (.int .i64 ((S.getD j (0, 0)).1 : Nat)) ∧ w4.cell? ⟨g, j * 2 + 1, none⟩ = some (.int .i64 ((S.getD j (0, 0)).2 : Nat))) := Lib.hid fun j hj => by
    rcases HSR.out with h | ⟨g, h1, h2⟩
    · omega
    · refine ⟨g, h1, ?_, ?_, ?_⟩
      · exact Nat.lt_of_lt_of_le h2.lt hb4.size
      all_goals
        have h3 := h2.below hb4 h2.lt
      · have h5 := h3.cell? (j * 2) (by rw [mCells_length, HSL.out]; omega)
        rw [Nat.zero_add] at h5
        rw [h5, mCells_get _ _ (by rw [HSL.out]; omega)]
        have a1 : j * 2 / 2 = j := by omega
        have a2 : j * 2 % 2 = 0 := by omega
        rw [a1, a2]; rfl
      · have h5 := h3.cell? (j * 2 + 1) (by rw [mCells_length, HSL.out]; omega)
        rw [Nat.zero_add] at h5
        rw [h5, mCells_get _ _ (by rw [HSL.out]; omega)]
        have a1 : (j * 2 + 1) / 2 = j := by omega
        have a2 : (j * 2 + 1) % 2 = 1 := by omega
        rw [a1, a2]; rfl
  rw [← hO] at HSO
  have HOLL := Lib.hid hOl
  clear ho4 hb4 e4 hO HSR HB2 HPS2 hpc hOl
  go_wp2_with fail
  go_loopw [12, 55] (fun v12 v55 wr => ∃ (j m2 c2 : Nat) (a2 : Option Addr), j ≤ m ∧ m2 ≤ j ∧ v55 = .int .i64 j ∧ v12 = .slice a2 m2 c2 ∧ Hid (EachS w4 wr a2 m2 c2 (((S.take j).filter fun x => decide (x.2 = wh)).map (·.1)))) (fun _ v55 _ => m - (intOf v55).toNat)
  case atStart => exact ⟨0, 0, 0, none, by omega, by omega, rfl, rfl, Lib.hid ⟨Owns.nil _ _ _ _, rfl, Below.refl _ _⟩⟩
  case round =>
    obtain ⟨j, m2, c2, a2, hj, hm2, rfl, rfl, HE⟩ := hrel
    by_cases hjm : j < m
    · have hjI : (j : Int) < (m : Int) := by omega
      have hjN : decide (j < m) = true := decide_eq_true hjm
      obtain ⟨g, rfl, hg, hc0, hc1⟩ := HSR4.out j hjm
      have hbE := HE.out.bel
      have hc0 := (hbE.cell (p := ⟨g, j * 2, none⟩) hg).trans hc0
      have hc1 := (hbE.cell (p := ⟨g, j * 2 + 1, none⟩) hg).trans hc1
      have hsl := HSL.out
      obtain ⟨xy, hxy⟩ : ∃ xy, xy = S.getD j (0, 0) := ⟨_, rfl⟩
      have htk : S.take (j + 1) = S.take j ++ [xy] := by
        rw [hxy, List.getD_eq_getElem?_getD, List.getElem?_eq_getElem (by omega)]
        exact List.take_succ_eq_append_getElem _
      rw [← hxy] at hc0 hc1
      obtain ⟨x, y⟩ := xy
      simp only [] at hc0 hc1
      have HTK := Lib.hid htk
      clear htk hxy hsl
      have hbB : w4.heap.size ≤ wr.heap.size := hbE.size
      have ho1 := HE.out.own.alloc (.cells #[.int .i64 (x : Nat), .int .i64 (y : Nat)] 36)
      have hbE1 := hbE.alloc hbB (.cells #[.int .i64 (x : Nat), .int .i64 (y : Nat)] 36)
      by_cases hyw : y = wh
      · have b0 : ((y : Int) == (wh : Int)) = true := by rw [beq_iff_eq]; omega
        have b0n : (y == wh) = true := by rw [beq_iff_eq]; exact hyw
        have HLL : Hid ((((S.take (j + 1)).filter fun x => decide (x.2 = wh)).map (·.1)) = (((S.take j).filter fun x => decide (x.2 = wh)).map (·.1)) ++ [x]) := Lib.hid (by
          rw [HTK.out, List.filter_append, List.map_append]
          simp [hyw])
        have HLEN := Lib.hid HE.out.len
        generalize (((S.take j).filter fun x => decide (x.2 = wh)).map (·.1)) = L at *
        subst hyw
        have hml2 : m2 + 1 ≤ maxLen := by unfold maxLen; omega
        have hby : (m2 + 1) * 8 ≤ 140737488355328 := by omega
        have hB1 : w4.heap.size ≤ (wr.alloc (.cells #[.int .i64 (x : Nat), .int .i64 (y : Nat)] 36)).heap.size := by simp; omega
        have HWS : Hid (wr.heap.size + 1 = (wr.alloc (.cells #[.int .i64 (x : Nat), .int .i64 (y : Nat)] 36)).heap.size) := Lib.hid (by simp)
        clear HE
        go_wp2_with (with_reducible refine wpList_pushW _ _ HWS.out rfl _ _ 32 rfl w4.heap.size 3 (.int .i64 0) 1 8 Try.underlying32 infoInt rfl (by decide) a2 m2 c2 _ rfl ho1 [.int .i64 (x : Nat)] rfl (by simp [Value.oneCell']) rfl hml2 hby hB1 ?_; intro a3 cap3 w6 hown3 hgrow3 hloc3 hsz3 hex3)
        have hb3 := below_blk hbE1 ho1 (Nat.le_refl _) hB1 hgrow3
        go_roundw
        case rel => exact ⟨j + 1, m2 + 1, cap3, a3, by omega, by omega, by go_num, rfl, Lib.hid ⟨by rw [HLL.out, show nints (L ++ [x]) = nints L ++ [(x : Int)] by simp [nints], ← ivals_snoc]; exact hown3, by rw [HLL.out, List.length_append, HLEN.out]; rfl, hb3⟩⟩
        case measure => simp [intOf]; omega
      · have b0 : ((y : Int) == (wh : Int)) = false := by rw [beq_eq_false_iff_ne]; omega
        have b0n : (y == wh) = false := by rw [beq_eq_false_iff_ne]; exact hyw
        have HLL : Hid ((((S.take (j + 1)).filter fun x => decide (x.2 = wh)).map (·.1)) = (((S.take j).filter fun x => decide (x.2 = wh)).map (·.1))) := Lib.hid (by
          rw [HTK.out, List.filter_append, List.map_append]
          simp [hyw])
        have HLEN := Lib.hid HE.out.len
        clear HE
        go_wp2_with fail
        go_roundw
        case rel => exact ⟨j + 1, m2, c2, a2, by omega, by omega, by go_num, rfl, Lib.hid ⟨by rw [HLL.out]; exact ho1, by rw [HLL.out]; exact HLEN.out, hbE1⟩⟩
        case measure => simp [intOf]; omega
    · obtain rfl : j = m := by omega
      have hd : decide ((j : Int) < (j : Int)) = false := by simp
      have hdn : decide (j < j) = false := by simp
      have HEN : Hid (EachS w4 wr a2 m2 c2 O) := Lib.hid (by
        have := HE.out
        rw [List.take_of_length_le (by rw [HSL.out]; exact Nat.le_refl _), HSO.out] at this
        exact this)
      have hom : O.length = m2 := HEN.out.len
      have HEQ : Hid (∀ k, Calls Try.prog 10 #[.slice a4 O.length c4, .slice a2 m2 c2] (wr.drewN k) fun e w' => e = .returned (.bool true) ∧ ∃ k2, w' = (wr.drewN k).drewN k2) := Lib.hid fun k => by
        exact (Equal_yes _ _ _ _ _ _ (nints O) _ (by rw [nints_length]) hom.symm (by have := HOLL.out; omega) ((HO4.out.below HEN.out.bel (Nat.le_refl _)).readsI.drewN k) (HEN.out.own.readsI.drewN k))
      have HEQ2 : Hid (∀ k, Calls Try.prog 10 #[.slice a2 m2 c2, .slice a4 O.length c4] (wr.drewN k) fun e w' => e = .returned (.bool true) ∧ ∃ k2, w' = (wr.drewN k).drewN k2) := Lib.hid fun k => by
        exact (Equal_yes _ _ _ _ _ _ (nints O) _ (by rw [nints_length]; exact hom) hom (by have := HOLL.out; omega) (HEN.out.own.readsI.drewN k) ((HO4.out.below HEN.out.bel (Nat.le_refl _)).readsI.drewN k))
      have HB9 := Lib.hid (HB4.out.trans (HEN.out.bel.mono HB4.out.size))
      clear hom HE
      go_wp2_with fail
      first
        | (refine (HEQ.out 0).mono ?_
           rintro e w7 ⟨rfl, k2, rfl⟩
           go_wp2_with fail
           go_ret
           exact ⟨rfl, bdrewN HB9.out _⟩)
        | (refine (HEQ2.out 0).mono ?_
           rintro e w7 ⟨rfl, k2, rfl⟩
           go_wp2_with fail
           go_ret
           exact ⟨rfl, bdrewN HB9.out _⟩)
end Go.Proofs.Ytkahceijhokmoaa
