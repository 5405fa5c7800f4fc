/- Contracts of package find: borders. -/
import Derived.Test.YtkahceijhokmoaaChecked
import Derived.Test.YtkahceijhokmoaaPlainFind2
import Derived.Test.YtkahceijhokmoaaOwn
namespace Go.Proofs.Ytkahceijhokmoaa
open Go.RowKit
set_option linter.unusedVariables false
set_option linter.unusedSimpArgs false
theorem infoInt : (Try.prog.info? 3).map (fun i => (i.zero, i.size, i.bytes)) = some (some (.int .i64 0), 1, 8) := by kernel_rfl
namespace Kmp
/-- on the way to the next border -/
def BGo (l : List UInt8) (i : Nat) (K : Int) : Prop := (i = 0 ∧ K = -1) ∨ (1 ≤ i ∧ Going l ((l.take i).drop 1) (l.getD i 0) K)
theorem bgo_start (l : List UInt8) (i : Nat) : BGo l i (brd l i) := by
  unfold BGo
  by_cases h : i = 0
  · left; subst h; exact ⟨rfl, rfl⟩
  · right
    unfold brd; rw [if_neg h]
    exact ⟨by omega, going_start _ _ _⟩
theorem bgo_bd {l : List UInt8} {i : Nat} {K : Int} (hi : i < l.length) (h : BGo l i K) : -1 ≤ K ∧ K < (i : Int) := by
  rcases h with ⟨h1, h2⟩ | ⟨h1, h2⟩
  · omega
  · have := going_bd h2
    rw [List.length_drop, List.length_take] at this
    omega
theorem bgo_next {l : List UInt8} {i n : Nat} (h : BGo l i (n : Nat)) (hne : l.getD n 0 ≠ l.getD i 0) : BGo l i (brd l n) := by
  rcases h with ⟨h1, h2⟩ | ⟨h1, h2⟩
  · omega
  · refine .inr ⟨h1, going_next h2 fun hl => ?_⟩
    rw [List.getD_eq_getElem?_getD, List.getElem?_eq_getElem hl] at hne
    simpa using hne
theorem bgo_done {l : List UInt8} {i : Nat} {K : Int} (hi : i < l.length) (h : BGo l i K) (hd : K = -1 ∨ ∃ n : Nat, K = (n : Int) ∧ l.getD n 0 = l.getD i 0) : brd l (i + 1) = K + 1 := by
  rcases h with ⟨h1, h2⟩ | ⟨h1, h2⟩
  · subst h1 h2; exact brd_one l
  · have e : (l.take (i + 1)).drop 1 = (l.take i).drop 1 ++ [l.getD i 0] := by
      rw [brd_text l i hi h1, List.getD_eq_getElem?_getD, List.getElem?_eq_getElem hi]; rfl
    have hbd := going_bd h2
    rw [List.length_drop, List.length_take] at hbd
    unfold brd; rw [if_neg (by omega), e]
    rcases hd with rfl | ⟨n, rfl, hn⟩
    · rw [going_none h2]; rfl
    · have hl : n < l.length := by omega
      rw [List.getD_eq_getElem?_getD, List.getElem?_eq_getElem hl] at hn
      rw [going_yes h2 hl hn]; simp
/-- the table -/
def brds (l : List UInt8) : List Int := (List.range (l.length + 1)).map (brd l)
theorem brds_length (l : List UInt8) : (brds l).length = l.length + 1 := by simp [brds]
theorem brds_get (l : List UInt8) (i : Nat) (h : i ≤ l.length) : (brds l).getD i 0 = brd l i := by
  simp [brds, List.getD_eq_getElem?_getD, List.getElem?_eq_getElem, show i < l.length + 1 from by omega]
end Kmp
set_option maxRecDepth 100000 in
set_option maxHeartbeats 1000000 in
theorem borders_any (p : ByteArray) (w : World) (hp : p.size ≤ 1000) :
    Calls Try.prog 20 #[.string p] w fun e w' =>
      e = .returned (.slice (some ⟨w.heap.size, 0, none⟩) (p.size + 1) (p.size + 1)) ∧ RowAt w' w.heap.size 0 3 (ivals (Kmp.brds p.data.toList)) ∧ Below w.heap.size w w' ∧ w.heap.size < w'.heap.size := by
  have hlen : p.data.toList.length = p.size := data_length p
  obtain ⟨i0, hi, hz0, hz1, hz2⟩ := info_parts infoInt
  obtain ⟨l, hl⟩ : ∃ l, l = p.data.toList := ⟨_, rfl⟩
  rw [← hl] at hlen ⊢
  have HL := Lib.hid hl; clear hl
  have hbl := Kmp.brds_length l
  have hbg := Kmp.brds_get l
  obtain ⟨B, hB⟩ : ∃ B, B = Kmp.brds l := ⟨_, rfl⟩
  rw [← hB] at hbl hbg ⊢
  have HB := Lib.hid hB; clear hB
  have HLEN := Lib.hid hlen; clear hlen
  have HBL := Lib.hid hbl; clear hbl
  have HBG := Lib.hid hbg; clear hbg
  have hfz := fillI_zero B
  rw [HBL.out, HLEN.out] at hfz
  have HFZ := Lib.hid hfz; clear hfz
  go_enter Try.func20, Try.ntmps20
  go_wp2_with (at_make; with_reducible refine wpList_make0 _ rfl _ _ _ rfl 3 i0 (.int .i64 0) Try.underlying32 hi hz0 hz1 rfl .i64 .i64 _ _ (p.size + 1) rfl rfl (by omega) (by omega) (by rw [hz2]; omega) (by unfold maxLen; omega) ?_; intro w1 hrow hb hsz; have hc0 := hrow.cell0 0 (by simp); have hf0 := hrow.frozen0 0 (by simp))
  replace hrow := hrow
  rw [← HFZ.out] at hrow
  have h1 : (-1 : Int) = B.getD 0 0 := by rw [HBG.out 0 (by omega)]; rfl
  replace hrow := hrow.fillI (k := 0) (v := .int .i64 (-1)) (by rw [HBL.out]; omega) (by rw [← h1])
  replace hb := hb.setCell (p := ⟨w.heap.size, 0, none⟩) (Nat.le_refl _) (.int .i64 (-1))
  clear hc0 hf0 h1
  generalize hg : w.heap.size = g at *
  have HG := Lib.hid hg; clear hg
  generalize w1.setCell ⟨g, 0, none⟩ (.int .i64 (-1)) = w2 at *
  have hgz : g < w2.heap.size := hrow.lt
  go_loopw [4, 14] (fun K i wr => ∃ q : Nat, q ≤ p.size ∧ i = .int .i64 q ∧ K = .int .i64 (Kmp.brd l q) ∧ RowAt wr g 0 3 (ivals (fillI B (q + 1))) ∧ Below g w wr) (fun _ i _ => p.size - (intOf i).toNat)
  case atStart => exact ⟨0, by omega, rfl, rfl, hrow, hb⟩
  case round =>
    clear hrow hb hgz
    obtain ⟨q, hq, rfl, rfl, hrow, hb⟩ := hrel
    have hb0 := Kmp.bgo_start l q
    have hl0 := Kmp.brd_lt l q
    generalize hK0 : Kmp.brd l q = K0 at *
    have HK0 := Lib.hid hK0; clear hK0
    have HB0 := Lib.hid hb0; clear hb0
    by_cases hlt : q < p.size
    · go_wp2_with fail
      obtain ⟨wo, rfl⟩ : ∃ wo : World, wo = wr := ⟨_, rfl⟩
      go_loopw [4] (fun K wr => ∃ k : Int, K = .int .i64 k ∧ Hid (Kmp.BGo l q k) ∧ RowAt wr g 0 3 (ivals (fillI B (q + 1))) ∧ Below g w wr) (fun K _ => (intOf K + 1).toNat)
      case atStart => exact ⟨K0, rfl, HB0, hrow, hb⟩
      case round =>
        clear hrow hb hl0 HB0 HK0
        obtain ⟨k, rfl, HK, hrow, hb⟩ := hrel
        have hbd := Kmp.bgo_bd (by rw [HLEN.out]; exact hlt) HK.out
        by_cases hk0 : k = -1
        · subst hk0
          have hgo := Kmp.bgo_done (by rw [HLEN.out]; exact hlt) HK.out (.inl rfl)
          have HGO := Lib.hid hgo; clear hgo
          have hv : B.getD (q + 1) 0 = 0 := by rw [HBG.out _ (by rw [HLEN.out]; omega), HGO.out]; rfl
          have HV := Lib.hid hv; clear hv
          have hc := hrow.int0 (q + 1) (by rw [fillI_length _ _ (by rw [HBL.out, HLEN.out]; omega), HBL.out, HLEN.out]; omega)
          have hf := hrow.frozen0 (q + 1) (by rw [ivals_length, fillI_length _ _ (by rw [HBL.out, HLEN.out]; omega), HBL.out, HLEN.out]; omega)
          go_wp2_with fail
          go_quiet (fail)
          go_wp2_with fail
          go_roundw
          case rel => exact ⟨q + 1, by omega, by go_num, by rw [HGO.out]; rfl, (hrow.drewN _).fillI (by rw [HBL.out, HLEN.out]; omega) (by rw [HV.out]), (bdrewN hb _).setCell (Nat.le_refl _) _⟩
          case measure => simp [intOf]; omega
        · obtain ⟨n, rfl⟩ := Int.eq_ofNat_of_zero_le (show 0 ≤ k by omega)
          have hnq : n < q := by omega
          have hnp : n < p.size := by omega
          have hsn : (n : Int) < (p.size : Int) := by omega
          have hsq : (q : Int) < (p.size : Int) := by omega
          have hbn : p[n].toNat = (l.getD n 0).toNat := by rw [byteAt p n hnp, HL.out]
          have hbq : p[q].toNat = (l.getD q 0).toNat := by rw [byteAt p q hlt, HL.out]
          have hge : decide ((0 : Int) ≤ (n : Int)) = true := by simp
          by_cases heq : l.getD n 0 = l.getD q 0
          · have hgo := Kmp.bgo_done (by rw [HLEN.out]; exact hlt) HK.out (.inr ⟨n, rfl, heq⟩)
            have HGO := Lib.hid hgo; clear hgo
            have hv : B.getD (q + 1) 0 = (n : Int) + 1 := by rw [HBG.out _ (by rw [HLEN.out]; omega), HGO.out]
            have HV := Lib.hid hv; clear hv
            have hc := hrow.int0 (q + 1) (by rw [fillI_length _ _ (by rw [HBL.out, HLEN.out]; omega), HBL.out, HLEN.out]; omega)
            have hf := hrow.frozen0 (q + 1) (by rw [ivals_length, fillI_length _ _ (by rw [HBL.out, HLEN.out]; omega), HBL.out, HLEN.out]; omega)
            have hne : (((p[n].toNat : Nat) : Int) != ((p[q].toNat : Nat) : Int)) = false := by rw [hbn, hbq, heq]; simp
            clear hbn hbq heq
            go_wp2_with fail
            go_quiet (fail)
            go_wp2_with fail
            go_roundw
            case rel => exact ⟨q + 1, by omega, by go_num, by rw [HGO.out], (hrow.drewN _).fillI (by rw [HBL.out, HLEN.out]; omega) (by rw [HV.out]), (bdrewN hb _).setCell (Nat.le_refl _) _⟩
            case measure => simp [intOf]; omega
          · have hgo := Kmp.bgo_next HK.out heq
            have HGO := Lib.hid hgo; clear hgo
            have hne : (((p[n].toNat : Nat) : Int) != ((p[q].toNat : Nat) : Int)) = true := by
              rw [hbn, hbq, bne_iff_ne]
              intro h
              exact heq (UInt8.toNat_inj.1 (by omega))
            clear hbn hbq heq
            have hc := hrow.int0 n (by rw [fillI_length _ _ (by rw [HBL.out, HLEN.out]; omega), HBL.out, HLEN.out]; omega)
            rw [fillI_get _ _ _ (by omega) (by rw [HBL.out, HLEN.out]; omega), HBG.out _ (by rw [HLEN.out]; omega)] at hc
            have hbl := Kmp.brd_lt l n
            generalize Kmp.brd l n = K1 at *
            go_wp2_with fail
            go_quiet (fail)
            go_wp2_with fail
            go_roundw
            case rel => exact ⟨K1, rfl, HGO, hrow.drewN _, bdrewN hb _⟩
            case measure => simp [intOf]; omega
    · obtain rfl : q = p.size := by omega
      go_wp2_with fail
      go_ret
      rw [HG.out]
      rw [← HLEN.out, ← HBL.out, fillI_full] at hrow
      exact ⟨rfl, hrow, hb, hrow.lt⟩
set_option maxRecDepth 100000 in
set_option maxHeartbeats 1000000 in
theorem All_any (s p : ByteArray) (w : World) (hp : p.size ≤ 1000) (hp1 : 1 ≤ p.size) (hs : s.size ≤ 100000) :
    Calls Try.prog 9 #[.string s, .string p] w fun e w' => ∃ a cap,
      e = .returned (.tuple #[.slice a (Kmp.occ s.data.toList p.data.toList s.size).length cap, .nilIface]) ∧
      Owns w' w.heap.size 3 1 a (Kmp.occ s.data.toList p.data.toList s.size).length cap (ivals ((Kmp.occ s.data.toList p.data.toList s.size).map fun (i : Nat) => (i : Int))) ∧ Below w.heap.size w w' := by
  have hlen : p.data.toList.length = p.size := data_length p
  have hsl : s.data.toList.length = s.size := data_length s
  obtain ⟨l, hl⟩ : ∃ l, l = p.data.toList := ⟨_, rfl⟩
  obtain ⟨S, hS⟩ : ∃ S, S = s.data.toList := ⟨_, rfl⟩
  have hbor := fun w => borders_any p w hp
  rw [← hl] at hlen hbor ⊢
  rw [← hS] at hsl ⊢
  have HL := Lib.hid hl; clear hl
  have HS := Lib.hid hS; clear hS
  have HLEN := Lib.hid hlen; clear hlen
  have HSL := Lib.hid hsl; clear hsl
  have HBOR := Lib.hid hbor; clear hbor
  have hbl := Kmp.brds_length l
  have hbg := Kmp.brds_get l
  obtain ⟨B, hB⟩ : ∃ B, B = Kmp.brds l := ⟨_, rfl⟩
  rw [← hB] at hbl hbg HBOR
  have HB := Lib.hid hB; clear hB
  have HBL := Lib.hid hbl; clear hbl
  have HBG := Lib.hid hbg; clear hbg
  have hemp : p.toList.isEmpty = false := by
    rw [ByteArray.toList_eq, ← HL.out]
    have := HLEN.out
    cases h : l with
    | nil => rw [h] at this; simp at this; omega
    | cons => rfl
  go_enter Try.func9, Try.ntmps9
  go_wp2_with fail
  refine (HBOR.out _).mono ?_
  rintro e w1 ⟨rfl, hrow, hb, hsz⟩
  go_wp2_with fail
  generalize hg : w.heap.size = g at *
  have HG := Lib.hid hg; clear hg
  go_loopw [7, 8, 17] (fun out K i wr => ∃ (q : Nat) (a : Option Addr) (cap : Nat), q ≤ s.size ∧ i = .int .i64 q ∧ K = .int .i64 (Kmp.lng l (S.take q) : Nat) ∧ out = .slice a (Kmp.occ S l q).length cap ∧
      Owns wr (g + 1) 3 1 a (Kmp.occ S l q).length cap (ivals ((Kmp.occ S l q).map fun (i : Nat) => (i : Int))) ∧ RowAt wr g 0 3 (ivals B) ∧ Below g w wr) (fun _ _ i _ => s.size - (intOf i).toNat)
  case atStart => exact ⟨0, none, 0, by omega, rfl, by simp [Kmp.lng_eq (Kmp.suf_zero l []) (fun j hj => Kmp.suf_len hj)], rfl, Owns.nil _ _ _ _, hrow, hb⟩
  case round =>
    clear hrow hb hsz
    obtain ⟨q, a, cap, hq, rfl, rfl, rfl, hown, hrow, hb⟩ := hrel
    have hgo0 := Kmp.going_start l (S.take q) (S.getD q 0)
    have HG0 := Lib.hid hgo0; clear hgo0
    have hol := Kmp.occ_length S l q
    have hKl := Kmp.lng_le l (S.take q)
    rw [HLEN.out] at hKl
    generalize hK0 : Kmp.lng l (S.take q) = K0 at *
    have HK0 := Lib.hid hK0; clear hK0
    by_cases hlt : q < s.size
    · have htk : S.take (q + 1) = S.take q ++ [S.getD q 0] := by
        rw [List.take_succ_eq_append_getElem (by rw [HSL.out]; exact hlt), List.getD_eq_getElem?_getD, List.getElem?_eq_getElem (by rw [HSL.out]; exact hlt)]; rfl
      have HTK := Lib.hid htk; clear htk
      have hyes := Kmp.occ_yes S l q
      have hno := Kmp.occ_no S l q
      have HYES := Lib.hid hyes; clear hyes
      have HNO := Lib.hid hno; clear hno
      generalize hO : Kmp.occ S l q = O at *
      have HO := Lib.hid hO; clear hO
      go_wp2_with fail
      obtain ⟨wo, rfl⟩ : ∃ wo : World, wo = wr := ⟨_, rfl⟩
      go_loopw [8] (fun K wr => ∃ k : Int, K = .int .i64 k ∧ Hid (Kmp.Going l (S.take q) (S.getD q 0) k) ∧ Owns wr (g + 1) 3 1 a O.length cap (ivals (O.map fun (i : Nat) => (i : Int))) ∧ RowAt wr g 0 3 (ivals B) ∧ Below g w wr) (fun K _ => (intOf K + 1).toNat)
      case atStart => exact ⟨K0, rfl, HG0, hown, hrow, hb⟩
      case round =>
        clear hrow hb HG0 HK0 hown hKl
        obtain ⟨k, rfl, HK, hown, hrow, hb⟩ := hrel
        have hbd := Kmp.going_bd HK.out
        rw [HLEN.out, List.length_take, HSL.out, Nat.min_eq_left hq] at hbd
        have hlg := hrow.lt
        -- how the step ends: at n = k + 1
        by_cases hk0 : k = -1
        · subst hk0
          have hgo := Kmp.going_none HK.out
          rw [← HTK.out] at hgo
          have hng := HNO.out (by rw [hgo, HLEN.out]; omega)
          have HGO := Lib.hid hgo; clear hgo
          have HN := Lib.hid hng; clear hng
          have hpz : ((0 : Int) == (p.size : Int)) = false := by rw [beq_eq_false_iff_ne]; omega
          go_wp2_with fail
          go_quiet (fail)
          go_wp2_with fail
          go_roundw
          case rel => exact ⟨q + 1, a, cap, by omega, by go_num, by rw [HGO.out]; rfl, by rw [HN.out], by rw [HN.out]; exact hown.drewN _, hrow.drewN _, bdrewN hb _⟩
          case measure => simp [intOf]; omega
        · obtain ⟨n, rfl⟩ := Int.eq_ofNat_of_zero_le (show 0 ≤ k by omega)
          have hge : decide ((0 : Int) ≤ (n : Int)) = true := by simp
          have hnp : n ≤ p.size := by omega
          by_cases hnl : n = p.size
          · -- the whole pattern: back to its longest border
            have hgo := Kmp.going_next HK.out (fun h => by exfalso; rw [HLEN.out] at h; omega)
            have HGO := Lib.hid hgo; clear hgo
            have hep : ((n : Int) == (p.size : Int)) = true := by rw [beq_iff_eq]; omega
            have hc := hrow.int0 n (by rw [HBL.out, HLEN.out]; omega)
            rw [HBG.out _ (by rw [HLEN.out]; omega)] at hc
            have hbl := Kmp.brd_lt l n
            have hnq : (n : Int) ≤ (p.size : Int) := by omega
            clear hnl
            generalize Kmp.brd l n = K1 at *
            go_wp2_with fail
            go_quiet (fail)
            go_wp2_with fail
            go_roundw
            case rel => exact ⟨K1, rfl, HGO, hown.drewN _, hrow.drewN _, bdrewN hb _⟩
            case measure => simp [intOf]; omega
          · have hep : ((n : Int) == (p.size : Int)) = false := by rw [beq_eq_false_iff_ne]; omega
            have hnp : n < p.size := by omega
            have hsn : (n : Int) < (p.size : Int) := by omega
            have hsq : (q : Int) < (s.size : Int) := by omega
            have hbn : p[n].toNat = (l.getD n 0).toNat := by rw [byteAt p n hnp, HL.out]
            have hbq : s[q].toNat = (S.getD q 0).toNat := by rw [byteAt s q hlt, HS.out]
            have hlget : ∀ h : n < l.length, l[n] = l.getD n 0 := fun h => by rw [List.getD_eq_getElem?_getD, List.getElem?_eq_getElem h]; rfl
            have HLG := Lib.hid hlget; clear hlget
            by_cases heq : l.getD n 0 = S.getD q 0
            · have hgo := Kmp.going_yes HK.out (by rw [HLEN.out]; exact hnp) (by rw [HLG.out]; exact heq)
              rw [← HTK.out] at hgo
              have HGO := Lib.hid hgo; clear hgo
              have hne : (((p[n].toNat : Nat) : Int) != ((s[q].toNat : Nat) : Int)) = false := by rw [hbn, hbq, heq]; simp
              clear hbn hbq heq hnl
              by_cases hfull : n + 1 = p.size
              · have hng := HYES.out (by rw [HGO.out, HLEN.out]; exact hfull)
                have HN := Lib.hid hng; clear hng
                have hpz : (((n : Int) + 1) == (p.size : Int)) = true := by rw [beq_iff_eq]; omega
                have hnq : (n : Int) ≤ (q : Int) := by omega
                clear hfull
                go_wp2_with fail
                go_quiet (fail)
                have hlg' : g + 1 ≤ (wr.drewN nq).heap.size := hlg
                go_wp2_with (with_reducible refine wpList_push _ rfl _ _ 32 rfl (g + 1) 3 (.int .i64 0) 1 8 Try.underlying32 infoInt rfl (by decide) a O.length cap _ rfl (hown.drewN _) [.int .i64 ((q : Int) + 1 - ((n : Int) + 1))] rfl (by simp [Value.oneCell']) rfl (by unfold maxLen; omega) (by omega) hlg' ?_; intro a' cap' w' hown' hgrow hloc hsz' hex)
                go_wp2_with fail
                have hx : ((q : Int) + 1 - ((n : Int) + 1)) = ((q + 1 - l.length : Nat) : Int) := by have h' := beq_iff_eq.1 hpz; rw [HLEN.out]; omega
                have hlen' : (O ++ [q + 1 - l.length]).length = O.length + 1 := by simp
                go_roundw
                case rel =>
                  refine ⟨q + 1, a', cap', by omega, by go_num, by rw [HGO.out]; rfl, by rw [HN.out, hlen'], ?_, ?_, ?_⟩
                  · rw [HN.out, hlen', List.map_append, List.map_singleton, ← hx, ← ivals_snoc]
                    exact hown'
                  · refine RowAt.of_heap (hrow.drewN nq) (hgrow.block g (show g < wr.heap.size from hlg) ?_)
                    intro h
                    cases ha : a with
                    | none => rw [ha] at h; simp [blk] at h
                    | some y => subst ha; have := hown.lt; simp [blk] at h; omega
                  · refine (bdrewN hb nq).grown hgrow (show g ≤ wr.heap.size from Nat.le_of_lt hlg) ?_
                    intro k hk
                    cases ha : a with
                    | none => rw [ha] at hk; simp [blk] at hk
                    | some y => subst ha; have := hown.lt; simp [blk] at hk; omega
                case measure => simp [intOf]; omega
              · have hng := HNO.out (by rw [HGO.out, HLEN.out]; exact hfull)
                have HN := Lib.hid hng; clear hng
                have hpz : (((n : Int) + 1) == (p.size : Int)) = false := by rw [beq_eq_false_iff_ne]; omega
                clear hfull
                go_wp2_with fail
                go_quiet (fail)
                go_wp2_with fail
                go_roundw
                case rel => exact ⟨q + 1, a, cap, by omega, by go_num, by rw [HGO.out]; rfl, by rw [HN.out], by rw [HN.out]; exact hown.drewN _, hrow.drewN _, bdrewN hb _⟩
                case measure => simp [intOf]; omega
            · have hgo := Kmp.going_next HK.out (fun h => by rw [HLG.out]; exact heq)
              have HGO := Lib.hid hgo; clear hgo
              have hne : (((p[n].toNat : Nat) : Int) != ((s[q].toNat : Nat) : Int)) = true := by
                rw [hbn, hbq, bne_iff_ne]
                intro h
                exact heq (UInt8.toNat_inj.1 (by omega))
              have hc := hrow.int0 n (by rw [HBL.out, HLEN.out]; omega)
              rw [HBG.out _ (by rw [HLEN.out]; omega)] at hc
              have hbl := Kmp.brd_lt l n
              clear hnl hbn hbq heq
              generalize Kmp.brd l n = K1 at *
              go_wp2_with fail
              go_quiet (fail)
              go_wp2_with fail
              go_roundw
              case rel => exact ⟨K1, rfl, HGO, hown.drewN _, hrow.drewN _, bdrewN hb _⟩
              case measure => simp [intOf]; omega
    · obtain rfl : q = s.size := by omega
      go_wp2_with fail
      go_ret2
      rw [HG.out]
      exact ⟨a, cap, rfl, hown.mono (by omega), hb⟩
end Go.Proofs.Ytkahceijhokmoaa
