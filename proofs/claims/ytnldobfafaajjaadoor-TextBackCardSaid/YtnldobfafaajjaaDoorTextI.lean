/- The law TextWhole. -/
import Derived.Test.YtnldobfafaajjaaDoorTextH
import Derived.Test.YtnldobfafaajjaaDoorPick
namespace Go.Proofs.YtnldobfafaajjaaDoor
open Go.RowKit Go.Shelf
set_option linter.unusedVariables false
set_option linter.unusedSimpArgs false
attribute [local go_sem] Oper.semAt_some
namespace Txt
/-- where the signs end -/
def ends (S : List (Nat × Nat)) (i : Nat) : List Nat := (List.range (i + 1)).map fun j => tot (S.take j)
theorem ends_length (S : List (Nat × Nat)) (i : Nat) : (ends S i).length = i + 1 := by simp [ends]
theorem ends_snoc (S : List (Nat × Nat)) (i : Nat) : ends S (i + 1) = ends S i ++ [tot (S.take (i + 1))] := by
  unfold ends; rw [List.range_succ, List.map_append]; rfl
theorem ends_get (S : List (Nat × Nat)) (i k : Nat) (h : k ≤ i) : (ends S i).getD k 0 = tot (S.take k) := by
  have : k < (ends S i).length := by rw [ends_length]; omega
  rw [List.getD_eq_getElem?_getD, List.getElem?_eq_getElem this]
  simp [ends]
theorem tot_snoc (S : List (Nat × Nat)) (i : Nat) (h : i < S.length) : tot (S.take (i + 1)) = tot (S.take i) + (S.getD i (0, 0)).2 := by
  rw [List.take_succ_eq_append_getElem h, List.getD_eq_getElem?_getD, List.getElem?_eq_getElem h]
  unfold tot
  rw [List.map_append, List.sum_append]
  simp
def hasBad (S : List (Nat × Nat)) : Bool := S.any fun x => x.1 == 65533
theorem hasBad_snoc (S : List (Nat × Nat)) (i : Nat) (h : i < S.length) : hasBad (S.take (i + 1)) = (hasBad (S.take i) || (S.getD i (0, 0)).1 == 65533) := by
  rw [List.take_succ_eq_append_getElem h, List.getD_eq_getElem?_getD, List.getElem?_eq_getElem h]
  unfold hasBad
  rw [List.any_append]
  simp
theorem enc_sgn (l : List UInt8) (h : hasBad (sgn l) = false) : enc ((sgn l).map (·.1)) = l := by
  have hb : ∀ x ∈ sgn l, x.1 ≠ 65533 := by
    intro x hx e
    have : hasBad (sgn l) = true := by
      unfold hasBad
      rw [List.any_eq_true]
      exact ⟨x, hx, by simp [e]⟩
    rw [h] at this; cases this
  have e := congrArg (List.map fun x : Int => x.toNat.toUInt8) (sgn_enc l hb)
  rw [List.map_map] at e
  have e2 : ((l.map ((fun x : Int => x.toNat.toUInt8) ∘ fun b : UInt8 => (b.toNat : Int)))) = l := by
    have : ((fun x : Int => x.toNat.toUInt8) ∘ fun b : UInt8 => (b.toNat : Int)) = id := by
      funext b; simp
    rw [this, List.map_id]
  rw [e2] at e
  rw [← e]
  conv => lhs; rw [e]
  unfold enc
  rw [List.flatMap_map, List.map_flatMap]
  rfl
end Txt
/-- the cell of a row of numbers -/
theorem rd_at {w : World} {a : Option Addr} {S : List (Nat × Nat)} {f : Nat × Nat → Nat} (h : RdI w a ((S.map f).map fun r : Nat => (r : Int))) (i : Nat) (hi : i < S.length) : ∃ x : Addr, a = some x ∧ ∀ W, Below w.heap.size w W → W.cell? (x.add i) = some (.int .i64 (f (S.getD i (0, 0)) : Nat)) := by
  obtain ⟨x, h1, h2, h3⟩ := h i (by simpa using hi)
  refine ⟨x, h1, fun W hW => ?_⟩
  rw [hW.cell (p := x.add i) (by rw [Addr.add_block]; exact h2), h3]
  simp only [List.getD_eq_getElem?_getD, List.getElem?_map, List.getElem?_eq_getElem hi]
  rfl
theorem rd_take {w : World} {a : Option Addr} {L : List Int} (h : RdI w a L) (k : Nat) : RdI w a (L.take k) := by
  intro i hi
  rw [List.length_take] at hi
  obtain ⟨x, h1, h2, h3⟩ := h i (by omega)
  exact ⟨x, h1, h2, by rw [getD_take _ _ _ (by omega)]; exact h3⟩
open Txt in
set_option maxRecDepth 100000 in
set_option maxHeartbeats 4000000 in
theorem TextWhole_l (l : List UInt8) (cut : Int) (w : World) (hT : Lib.Utf8Tabs 3 4 w) (hl : l.length ≤ 140737488351232) :
    Calls Tryd.prog 4 #[.string (bstr l), .int .i64 cut] w fun e w' => e = .returned (.bool true) ∧ Below w.heap.size w w' := by
  have hsg := signed_any w hT
  have HT := Lib.hid hT
  clear hT
  by_cases hlong : 200 < l.length
  · have hd : decide ((200 : Int) < (l.length : Int)) = true := decide_eq_true (by omega)
    go_enter Tryd.func4, Tryd.ntmps4
    go_wp2_with fail
    refine hsg.mono ?_
    rintro e w1 ⟨rfl, hb1⟩
    go_wp2_with fail
    go_ret
    exact ⟨rfl, hb1⟩
  have hd : decide ((200 : Int) < (l.length : Int)) = false := decide_eq_false (by omega)
  have hl2 : l.length ≤ 200 := by omega
  have htot := sgn_tot l
  have hlen := sgn_length l
  have heach := sgn_each l
  have htake := sgn_take l
  have henc := enc_sgn l
  have hde := fun W hT => Decode_any l (by omega) W hT
  obtain ⟨S, hS⟩ : ∃ S, S = sgn l := ⟨_, rfl⟩
  rw [← hS] at htot hlen heach htake henc hde
  have HS := Lib.hid hS
  have HTOT := Lib.hid htot; have HEA := Lib.hid heach; have HTK := Lib.hid htake; have HEN := Lib.hid henc; have HDE := Lib.hid hde; have HSG := Lib.hid hsg
  clear hS htot heach htake henc hde hsg hlong
  obtain ⟨N, hN⟩ : ∃ N, N = S.length := ⟨_, rfl⟩
  have HN := Lib.hid hN
  rw [← hN] at hlen
  clear hN
  have hne : ((N : Int) != (N : Int)) = false := by simp
  go_enter Tryd.func4, Tryd.ntmps4
  go_wp2_with fail
  refine HSG.out.mono ?_
  rintro e w1 ⟨rfl, hb1⟩
  have HB1 := Lib.hid hb1
  clear hb1 HSG
  go_wp2_with fail
  refine (HDE.out _ (Utf8Tabs_below HT.out HB1.out)).mono ?_
  rintro e w2 ⟨a1, c1, a2, c2, rfl, hds⟩
  have h1 := hds.o1.rdN
  have h2 := hds.o2.rdN
  have hb2 : Below w.heap.size w w2 := HB1.out.trans (hds.bel.mono HB1.out.size)
  have hcp : S.length ≤ c1 := by
    cases a1 with
    | none => have := hds.o1.of_none; omega
    | some x => exact hds.o1.row.2.2.1
  have HR1 := Lib.hid h1; have HR2 := Lib.hid h2; have HB2 := Lib.hid hb2; have HCP := Lib.hid hcp
  clear hcp
  clear hds h1 h2 hb2 HB1
  try rw [← HN.out]
  have hr0 := RowAt.new w2 3 #[.int .i64 0]
  have ho0 : Owns (w2.alloc (.cells #[.int .i64 0] 3)) w2.heap.size 3 1 (some ⟨w2.heap.size, 0, none⟩) 1 1 (nvals .i64 (ends S 0)) :=
    Owns.of_row (n := 1) (cap := 1) rfl _ w2.heap.size #[.int .i64 0] (Nat.le_refl _) (heap_alloc_new w2 _) rfl (Nat.le_refl _) (by decide) rfl
  have hb0 : Below w2.heap.size w2 (w2.alloc (.cells #[.int .i64 0] 3)) := (Below.refl _ w2).alloc (Nat.le_refl _) _
  have HO0 := Lib.hid ho0; have HB0 := Lib.hid hb0
  clear hr0 ho0 hb0
  go_wp2_with fail
  go_loopw [7, 8, 9, 10] (fun v7 v8 v9 v10 wr => ∃ (i : Nat) (b : Bool) (a : Option Addr) (c : Nat), i ≤ N ∧ v10 = .int .i64 i ∧ v9 = .slice a (i + 1) c ∧ v8 = .bool b ∧ v7 = .int .i64 (tot (S.take i) : Nat) ∧ Hid (b = hasBad (S.take i)) ∧ Hid (Owns wr w2.heap.size 3 1 a (i + 1) c (nvals .i64 (ends S i))) ∧ Hid (Below w2.heap.size w2 wr)) (fun _ _ _ v10 _ => N - (intOf v10).toNat)
  case atStart => exact ⟨0, false, _, 1, by omega, rfl, rfl, rfl, rfl, Lib.hid rfl, HO0, HB0⟩
  case round =>
    obtain ⟨i, b, a, c, hi, rfl, rfl, rfl, rfl, HBD, HO, HB⟩ := hrel
    by_cases hlt : i < N
    · have hki : (i : Int) < (N : Int) := by omega
      have hil : i < S.length := by rw [← HN.out]; exact hlt
      obtain ⟨x1, rfl, hc1⟩ := rd_at HR1.out i hil
      obtain ⟨x2, rfl, hc2⟩ := rd_at HR2.out i hil
      have hts := tot_snoc S i hil
      have htl := tot_take_le S (i + 1)
      rw [HTOT.out] at htl
      have hbs := hasBad_snoc S i hil
      have hea := HEA.out (S.getD i (0, 0)) (by rw [List.getD_eq_getElem?_getD, List.getElem?_eq_getElem hil]; exact List.getElem_mem hil)
      have hes := ends_snoc S i
      generalize S.getD i (0, 0) = rn at *
      obtain ⟨r, n⟩ := rn
      simp only at hc1 hc2 hts hbs hea
      generalize htt : tot (S.take i) = t at *
      generalize htu : tot (S.take (i + 1)) = u at *
      subst hts
      have d1 : decide ((n : Int) < 1) = false := decide_eq_false (by omega)
      have d2 : decide ((l.length : Int) < (t : Int) + (n : Int)) = false := decide_eq_false (by omega)
      have hw1 : IntKind.i64.wrap ((t : Int) + (n : Int)) = (t : Int) + (n : Int) := i64_in' _ (by omega) (by omega)
      have hml : (i + 1) + 1 ≤ maxLen := by unfold maxLen; omega
      have hby : ((i + 1) + 1) * 8 ≤ 140737488355328 := by omega
      have hBz := HB.out.size
      have hes2 : ends S (i + 1) = ends S i ++ [t + n] := hes
      have hc2r := hc2 wr HB.out
      have HBS := Lib.hid hbs; have HES := Lib.hid hes2; have HTT := Lib.hid htt; have HTU := Lib.hid htu; have HC1 := Lib.hid hc1; have HC2 := Lib.hid hc2
      clear hbs hes hes2 htt htu hea hc1 hc2
      have hpush : ∀ (a' : Option Addr) (c' : Nat) (w4 : World), Owns w4 w2.heap.size 3 1 a' (i + 1 + 1) c' (nvals .i64 (ends S i) ++ [.int .i64 ((t : Int) + (n : Int))]) → Owns w4 w2.heap.size 3 1 a' (i + 1 + 1) c' (nvals .i64 (ends S (i + 1))) := by
        intro a' c' w4 h
        rw [HES.out, ← nvals_snoc']
        exact h
      have HP := Lib.hid hpush
      clear hpush
      by_cases hbt : b = true
      · have hnb : true = hasBad (S.take (i + 1)) := by rw [HBS.out, ← HBD.out, hbt]; rfl
        have HNB := Lib.hid hnb
        clear hnb
        go_wp2_with (with_reducible refine wpList_push _ rfl _ _ 36 rfl w2.heap.size 3 (.int .i64 0) 1 8 Tryd.underlying36 infoTx rfl (by decide) a (i + 1) c _ rfl HO.out [.int .i64 ((t : Int) + (n : Int))] rfl (by simp [Value.oneCell']) rfl hml hby hBz ?_; intro a' c' w4 hown hgrow hloc hsz hex; have hb4 := below_blk HB.out HO.out (Nat.le_refl _) hBz hgrow; have hc1w := HC1.out w4 hb4; have hc2w := HC2.out w4 hb4)
        have HO4 := Lib.hid (HP.out _ _ _ hown); have HB4 := Lib.hid hb4
        clear hown hgrow hloc hex hb4
        go_roundw
        case rel => exact ⟨i + 1, true, a', c', by omega, by go_num, rfl, rfl, by rw [HTU.out]; rfl, HNB, HO4, HB4⟩
        case measure => simp [intOf]; omega
      · have hbf : b = false := by simpa using hbt
        clear hbt
        by_cases hr : r = 65533
        · have d4 : ((r : Int) == 65533) = true := by rw [beq_iff_eq]; omega
          have hnb : true = hasBad (S.take (i + 1)) := by rw [HBS.out, hr]; simp
          have HNB := Lib.hid hnb
          clear hnb hr
          go_wp2_with (with_reducible refine wpList_push _ rfl _ _ 36 rfl w2.heap.size 3 (.int .i64 0) 1 8 Tryd.underlying36 infoTx rfl (by decide) a (i + 1) c _ rfl HO.out [.int .i64 ((t : Int) + (n : Int))] rfl (by simp [Value.oneCell']) rfl hml hby hBz ?_; intro a' c' w4 hown hgrow hloc hsz hex; have hb4 := below_blk HB.out HO.out (Nat.le_refl _) hBz hgrow; have hc1w := HC1.out w4 hb4; have hc2w := HC2.out w4 hb4)
          have HO4 := Lib.hid (HP.out _ _ _ hown); have HB4 := Lib.hid hb4
          clear hown hgrow hloc hex hb4
          go_roundw
          case rel => exact ⟨i + 1, true, a', c', by omega, by go_num, rfl, rfl, by rw [HTU.out]; rfl, HNB, HO4, HB4⟩
          case measure => simp [intOf]; omega
        · have d4 : ((r : Int) == 65533) = false := by rw [beq_eq_false_iff_ne]; omega
          have hnb : false = hasBad (S.take (i + 1)) := by
            rw [HBS.out, ← HBD.out, hbf]
            have : (r == 65533) = false := by rw [beq_eq_false_iff_ne]; exact hr
            rw [this]; rfl
          have HNB := Lib.hid hnb
          clear hnb hr
          go_wp2_with (with_reducible refine wpList_push _ rfl _ _ 36 rfl w2.heap.size 3 (.int .i64 0) 1 8 Tryd.underlying36 infoTx rfl (by decide) a (i + 1) c _ rfl HO.out [.int .i64 ((t : Int) + (n : Int))] rfl (by simp [Value.oneCell']) rfl hml hby hBz ?_; intro a' c' w4 hown hgrow hloc hsz hex; have hb4 := below_blk HB.out HO.out (Nat.le_refl _) hBz hgrow; have hc1w := HC1.out w4 hb4; have hc2w := HC2.out w4 hb4)
          have HO4 := Lib.hid (HP.out _ _ _ hown); have HB4 := Lib.hid hb4
          clear hown hgrow hloc hex hb4
          go_roundw
          case rel => exact ⟨i + 1, false, a', c', by omega, by go_num, rfl, rfl, by rw [HTU.out]; rfl, HNB, HO4, HB4⟩
          case measure => simp [intOf]; omega
    · obtain rfl : i = N := by omega
      have hd9 : decide ((i : Int) < (i : Int)) = false := by simp
      have htk : S.take i = S := List.take_of_length_le (by rw [← HN.out]; exact Nat.le_refl _)
      have hR1 := HR1.out.below HB.out (Nat.le_refl _)
      have hbw : Below w.heap.size w wr := HB2.out.trans (HB.out.mono HB2.out.size)
      have hkk := pickN_lt cut (i + 1) (by omega)
      have hre := HO.out.rdN
      have hpk := pick_at cut ((i : Int) + 1) (i + 1) wr (by omega) (by omega) (by omega)
      generalize pickN cut (i + 1) = k at *
      obtain ⟨xe, rfl, hxe, hce⟩ := hre k (by rw [List.length_map, ends_length]; exact hkk)
      have hge : ((ends S i).map fun r : Nat => (r : Int)).getD k 0 = (tot (S.take k) : Nat) := by
        rw [← ends_get S i k (by omega)]
        simp only [List.getD_eq_getElem?_getD, List.getElem?_map, List.getElem?_eq_getElem (show k < (ends S i).length by rw [ends_length]; exact hkk)]; rfl
      rw [hge] at hce
      have hml := tot_take_le S k
      rw [HTOT.out] at hml
      have htt := HTK.out k
      have hti : tot (S.take i) = l.length := by rw [htk]; exact HTOT.out
      have hsk : (S.take k).length = k := by rw [List.length_take, ← HN.out]; omega
      generalize tot (S.take k) = m at *
      rw [hti]
      have hext : (bstr l).extract 0 m = bstr (l.take m) := by rw [bstr_cutT, List.drop_zero, Nat.sub_zero]
      have hdc := Decode_any (l.take m) (by rw [List.length_take]; omega) wr (Utf8Tabs_below HT.out hbw)
      rw [htt, hsk] at hdc
      have m1 : (m : Int) ≤ (l.length : Int) := by omega
      have m2 : (0 : Int) ≤ (m : Int) := by omega
      have m3 : (k : Int) < (i : Int) + 1 := by omega
      have m4 : (0 : Int) ≤ (k : Int) := by omega
      have hR := Lib.hid hR1; have HBW := Lib.hid hbw; have HPK := Lib.hid hpk; have HDC := Lib.hid hdc; have HSK := Lib.hid hsk
      have HTI := Lib.hid hti; have HTKI := Lib.hid htk
      clear hR1 hbw hpk hdc hre hxe hge htt hti htk hsk hlt hi
      go_wp2_with fail
      refine HPK.out.mono ?_
      rintro e w3 ⟨rfl, rfl⟩
      go_wp2_with fail
      refine HDC.out.mono ?_
      rintro e w4 ⟨a3, c3, a4, c4, rfl, hds⟩
      have h3 := hds.o1.rdN
      have hb5 := hds.bel
      have hR4 := hR.out.below hb5 (Nat.le_refl _)
      have hec := Encode_ok (S.map (·.1)) a1 i c1 w4 (by rw [List.length_map, HN.out]) (by omega) (by
        intro r hr
        obtain ⟨x, hx, rfl⟩ := List.mem_map.1 hr
        exact (HEA.out x hx).2) hR4
      have hen := HEN.out
      have hbd := HBD.out
      rw [HTKI.out] at hbd
      rw [← hbd] at hen
      generalize hst : enc (S.map (·.1)) = T at *
      have hb6 : Below w.heap.size w w4 := HBW.out.trans (hb5.mono HBW.out.size)
      have H3 := Lib.hid h3; have HR4 := Lib.hid hR4; have HEC := Lib.hid hec; have HENB := Lib.hid hen; have HB6 := Lib.hid hb6
      clear hds h3 hb5 hR4 hec hen hbd hst hb6
      go_wp2_with fail
      refine HEC.out.mono ?_
      rintro e w5 ⟨rfl, hb7⟩
      have h3 := H3.out.below hb7 (Nat.le_refl _)
      have h1 := rd_take (HR4.out.below hb7 (Nat.le_refl _)) k
      rw [← List.map_take, ← List.map_take] at h1
      have heq := EqualR_yes a3 a1 k k c3 c1 _ w5 (by rw [List.length_map, List.length_map, HSK.out]) rfl (by omega) h3 h1
      have hb8 : Below w.heap.size w w5 := HB6.out.trans (hb7.mono HB6.out.size)
      have HEQ := Lib.hid heq; have HB8 := Lib.hid hb8
      clear h3 h1 heq hb7 hb8
      have hkc : k ≤ c1 := by have := HCP.out; have := HN.out; omega
      have hkc2 : (k : Int) ≤ (c1 : Int) := by omega
      by_cases hbt : b = true
      · go_wp2_with fail
        refine HEQ.out.mono ?_
        rintro e w6 ⟨rfl, q, rfl⟩
        go_wp2_with fail
        go_ret
        exact ⟨rfl, bdrewN HB8.out q⟩
      · have hbf : b = false := by simpa using hbt
        obtain rfl : T = l := HENB.out hbf
        have hll : (T == T) = true := by simp
        go_wp2_with fail
        refine HEQ.out.mono ?_
        rintro e w6 ⟨rfl, q, rfl⟩
        go_wp2_with fail
        go_ret
        exact ⟨rfl, bdrewN HB8.out q⟩
theorem TextWhole_walk (s : ByteArray) (cut : Int) (hs : s.size ≤ 140737488351232) (h1 : -9223372036854775808 ≤ cut) (h2 : cut ≤ 9223372036854775807) (W : World) (hT : Lib.Utf8Tabs 3 4 W) :
    Calls Tryd.prog 4 #[.string s, .int .i64 cut] W fun e w' => e = .returned (.bool true) ∧ Below W.heap.size W w' := by
  rw [eq_bstr s]
  exact TextWhole_l s.data.toList cut W hT (by rw [data_length]; exact hs)
end Go.Proofs.YtnldobfafaajjaaDoor
