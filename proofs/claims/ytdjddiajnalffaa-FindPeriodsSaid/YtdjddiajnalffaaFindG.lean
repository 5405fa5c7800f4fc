/- The law FindPeriods. -/
import Derived.Test.YtdjddiajnalffaaFindD
import Derived.Test.YtdjddiajnalffaaPick
namespace Go.Proofs.Ytdjddiajnalffaa
open Go.RowKit
set_option linter.unusedVariables false
set_option linter.unusedSimpArgs false
namespace Kmp
theorem periods_step (p : List UInt8) (k : Nat) (hk : 1 ≤ k) (L : List Nat) (h : L ++ (chn p k k).map (p.length - ·) = periods p) :
    (L ++ [p.length - lng p ((p.take k).drop 1)]) ++ (chn p (lng p ((p.take k).drop 1)) (lng p ((p.take k).drop 1))).map (p.length - ·) = periods p := by
  obtain ⟨j, rfl⟩ : ∃ j, k = j + 1 := ⟨k - 1, by omega⟩
  rw [← h]
  have hlt := next_lt p (j + 1) (by omega)
  conv => rhs; unfold chn
  rw [if_neg (by omega), chn_fuel p j _ (by omega)]
  simp
theorem periods_pos (p : List UInt8) (h : 1 ≤ p.length) : 1 ≤ (periods p).length := by
  unfold periods
  rw [List.length_map]
  obtain ⟨j, hj⟩ : ∃ j, p.length = j + 1 := ⟨p.length - 1, by omega⟩
  rw [hj]
  unfold chn
  rw [if_neg (by omega)]
  simp
theorem periods_le (p : List UInt8) : ∀ x ∈ periods p, 1 ≤ x ∧ x ≤ p.length := by
  intro x hx
  obtain ⟨k, hk, rfl⟩ := List.mem_map.1 hx
  obtain ⟨h1, h2⟩ := chn_suf p _ _ (Nat.le_refl _) k hk
  omega
end Kmp
set_option maxRecDepth 100000 in
set_option maxHeartbeats 2000000 in
theorem FindPeriods_walk (p : ByteArray) (x y : Int) (hp : p.size ≤ 140737488351232) (hx1 : -9223372036854775808 ≤ x) (hx2 : x ≤ 9223372036854775807) (hy1 : -9223372036854775808 ≤ y) (hy2 : y ≤ 9223372036854775807) (w : World) :
    Calls Try.prog 9 #[.string p, .int .i64 x, .int .i64 y] w fun e w' => e = .returned (.bool true) ∧ Below w.heap.size w w' := by
  by_cases h0 : p.size = 0
  · have hemp : p.toList.isEmpty = true := by
      rw [ByteArray.toList_eq]
      cases h : p.data.toList with
      | nil => rfl
      | cons x l => have := data_length p; rw [h] at this; simp at this; omega
    clear h0
    go_enter Try.func9, Try.ntmps9
    go_wp2_with fail
    refine (found_any _).mono ?_
    rintro e w1 ⟨rfl, hb1⟩
    go_wp2_with fail
    go_ret
    exact ⟨rfl, hb1⟩
  have hemp : p.toList.isEmpty = false := by
    rw [ByteArray.toList_eq]
    cases h : p.data.toList with
    | nil => have := data_length p; rw [h] at this; simp at this; omega
    | cons x l => rfl
  by_cases h200 : 200 < p.size
  · have hd1 : decide ((200 : Int) < (p.size : Int)) = true := by rw [decide_eq_true_eq]; omega
    clear h0
    go_enter Try.func9, Try.ntmps9
    go_wp2_with fail
    refine (found_any _).mono ?_
    rintro e w1 ⟨rfl, hb1⟩
    go_wp2_with fail
    go_ret
    exact ⟨rfl, hb1⟩
  have hd1 : decide ((200 : Int) < (p.size : Int)) = false := by rw [decide_eq_false_iff_not]; omega
  have hp1 : 1 ≤ p.size := by omega
  have hp200 : p.size ≤ 200 := by omega
  clear h0 h200
  have hlen : p.data.toList.length = p.size := data_length p
  have hbor := fun w => Borders_any p w (by omega) hp1
  obtain ⟨l, hl⟩ : ∃ l, l = p.data.toList := ⟨_, rfl⟩
  rw [← hl] at hlen hbor
  have HL := Lib.hid hl; clear hl
  have HBOR := Lib.hid hbor; clear hbor
  have hdr : ∀ i, i < p.size → ((Kmp.brds l).drop 1).getD i 0 = (Kmp.lng l ((l.take (i + 1)).drop 1) : Nat) := by
    intro i hi
    have h1 := Kmp.brds_get l (i + 1) (by omega)
    rw [List.getD_eq_getElem?_getD, List.getElem?_drop, Nat.add_comm 1 i, ← List.getD_eq_getElem?_getD, h1]
    simp [Kmp.brd]
  have hdl : ((Kmp.brds l).drop 1).length = p.size := by rw [List.length_drop, Kmp.brds_length]; omega
  have hpp := Kmp.periods_pos l (by omega)
  have hst0 : ([] : List Nat) ++ (Kmp.chn l p.size p.size).map (l.length - ·) = Kmp.periods l := by unfold Kmp.periods; rw [hlen]; rfl
  have HPP := Lib.hid hpp; clear hpp
  have HST0 := Lib.hid hst0; clear hst0
  have HDR := Lib.hid hdr; clear hdr
  have HDL := Lib.hid hdl; clear hdl
  have HLEN := Lib.hid hlen; clear hlen
  have hnn : ((p.size : Int) != (p.size : Int)) = false := by simp
  go_enter Try.func9, Try.ntmps9
  go_wp2_with fail
  refine (found_any _).mono ?_
  rintro e w1 ⟨rfl, hb1⟩
  go_wp2_with fail
  refine (HBOR.out _).mono ?_
  rintro e w2 ⟨rfl, hrow, hb2, hsz⟩
  generalize hB : (Kmp.brds l).drop 1 = B at *
  generalize hg : w1.heap.size = g at *
  have hb := hb1.trans (hb2.mono (by have := hb1.size; omega))
  have hwg : w.heap.size ≤ g := by have := hb1.size; omega
  have HG := Lib.hid hg; clear hg
  have HB := Lib.hid hB; clear hB
  clear hb1 hb2
  go_wp2_with fail
  go_loopw [8, 9] (fun out K wr => ∃ (k : Nat) (L : List Nat) (a : Option Addr) (cap : Nat), L.length + k ≤ p.size ∧ K = .int .i64 k ∧ out = .slice a L.length cap ∧ Hid (L ++ (Kmp.chn l k k).map (l.length - ·) = Kmp.periods l) ∧
      Owns wr (g + 1) 3 1 a L.length cap (ivals (L.map fun (i : Nat) => (i : Int))) ∧ RowAt wr g 1 3 (ivals B) ∧ Below w.heap.size w wr) (fun _ K _ => (intOf K).toNat)
  case atStart => exact ⟨p.size, [], none, 0, by simp, rfl, rfl, HST0, Owns.nil _ _ _ _, hrow, hb⟩
  case round =>
    clear hrow hb HST0
    obtain ⟨k, L, a, cap, hLk, rfl, rfl, HST, hown, hrow, hb⟩ := hrel
    have hlg := hrow.lt
    by_cases hk : 1 ≤ k
    · have hst := Kmp.periods_step l k hk L HST.out
      have hnl := Kmp.next_lt l k hk
      have hlp := Kmp.lng_le l ((l.take k).drop 1)
      rw [HLEN.out] at hlp
      obtain ⟨i, rfl⟩ : ∃ i, k = i + 1 := ⟨k - 1, by omega⟩
      have hc := hrow.int i (by rw [HDL.out]; omega)
      rw [HDR.out i (by omega)] at hc
      rw [HLEN.out] at hst
      generalize Kmp.lng l ((l.take (i + 1)).drop 1) = q at *
      have HST2 := Lib.hid hst; clear hst
      have hlI : (L.length : Int) ≤ (p.size : Int) := by omega
      have e1 : decide ((0 : Int) < (i : Int) + 1) = true := by rw [decide_eq_true_eq]; omega
      have e2 : decide ((L.length : Int) ≤ (p.size : Int)) = true := by rw [decide_eq_true_eq]; omega
      have e3 : decide ((p.size : Int) ≤ (q : Int)) = false := by rw [decide_eq_false_iff_not]; omega
      have e4 : decide ((q : Int) < 0) = false := by rw [decide_eq_false_iff_not]; omega
      have e5 : ((i + 1 : Nat) : Int) = (i : Int) + 1 := by omega
      have hiI : (i : Int) < (p.size : Int) := by omega
      have hlg' : g + 1 ≤ wr.heap.size := hlg
      go_wp2_with (with_reducible refine wpList_push _ rfl _ _ 44 rfl (g + 1) 3 (.int .i64 0) 1 8 Try.underlying44 infoInt rfl (by decide) a L.length cap _ rfl hown [.int .i64 ((p.size : Int) - (q : Int))] rfl (by simp [Value.oneCell']) rfl (by unfold maxLen; omega) (by omega) hlg' ?_; intro a' cap' w' hown' hgrow hloc hsz' hex)
      go_wp2_with fail
      have hlen' : (L ++ [p.size - q]).length = L.length + 1 := by simp
      have hx : ((p.size : Int) - (q : Int)) = ((p.size - q : Nat) : Int) := by omega
      go_roundw
      case rel =>
        refine ⟨q, L ++ [p.size - q], a', cap', by omega, rfl, by rw [hlen'], by rw [HLEN.out]; exact HST2.out, ?_, hrow.blk hown hgrow (by omega), below_blk hb hown (by omega) (by omega) hgrow⟩
        rw [hlen', List.map_append, List.map_singleton, ← hx, ← ivals_snoc]
        exact hown'
      case measure => simp [intOf]; omega
    · have hk0 : k = 0 := by omega
      have hLP : L = Kmp.periods l := by have := HST.out; rw [hk0] at this; simpa [Kmp.chn] using this
      have hkd : decide ((0 : Int) < (k : Int)) = false := by rw [decide_eq_false_iff_not]; omega
      clear hk0
      subst hLP
      have hpos := HPP.out
      have hwf := Kmp.periods_wilf l
      have hple := Kmp.periods_le l
      rw [HLEN.out] at hwf hple
      generalize hP : Kmp.periods l = P at *
      have HP := Lib.hid hP; clear hP
      have HWF := Lib.hid hwf; clear hwf
      have hpx := fun w => turn (pick_at x (P.length : Nat) P.length w rfl hpos (by omega))
      have hpy := fun w => turn (pick_at y (P.length : Nat) P.length w rfl hpos (by omega))
      have hx3 := pickN_lt x P.length hpos
      have hy3 := pickN_lt y P.length hpos
      generalize pickN x P.length = ix at *
      generalize pickN y P.length = iy at *
      have hix : (ix : Int) < (P.length : Int) := by omega
      have hiy : (iy : Int) < (P.length : Int) := by omega
      have hex : ∃ ga, a = some ⟨ga, 0, none⟩ := by
        cases a with
        | none => have := hown.of_none.1; omega
        | some x => exact ⟨x.block, by rw [← hown.row.1]⟩
      obtain ⟨ga, rfl⟩ := hex
      have hcx := hown.int ix (by simpa using hx3)
      have hcy := hown.int iy (by simpa using hy3)
      have hgx : (P.map fun (i : Nat) => (i : Int)).getD ix 0 = ((P.getD ix 0 : Nat) : Int) := by simp [List.getD_eq_getElem?_getD, List.getElem?_eq_getElem hx3]
      have hgy : (P.map fun (i : Nat) => (i : Int)).getD iy 0 = ((P.getD iy 0 : Nat) : Int) := by simp [List.getD_eq_getElem?_getD, List.getElem?_eq_getElem hy3]
      rw [hgx] at hcx
      rw [hgy] at hcy
      have hmx : P.getD ix 0 ∈ P := by rw [List.getD_eq_getElem?_getD, List.getElem?_eq_getElem hx3]; exact List.getElem_mem _
      have hmy : P.getD iy 0 ∈ P := by rw [List.getD_eq_getElem?_getD, List.getElem?_eq_getElem hy3]; exact List.getElem_mem _
      have hbx := hple _ hmx
      have hby := hple _ hmy
      have hw := HWF.out _ _ hmx hmy
      clear hgx hgy hple
      generalize P.getD ix 0 = u at *
      generalize P.getD iy 0 = v at *
      have HWF2 := Lib.hid hw; clear hw HWF
      have HPX := Lib.hid hpx; clear hpx
      have HPY := Lib.hid hpy; clear hpy
      have HOWN := Lib.hid hown; clear hown
      clear hmx hmy hrow
      go_wp2_with fail
      go_quiet (first | (go_at_call 21; with_reducible exact Calls.quiet_of_same (HPX.out _)) | (go_at_call 21; with_reducible exact Calls.quiet_of_same (HPY.out _)))
      go_wp2_with fail
      have hgp : 0 < Nat.gcd u v := Nat.gcd_pos_of_pos_left _ (by omega)
      generalize hG : Nat.gcd u v = G at *
      have HG2 := Lib.hid hG; clear hG
      have hbq := bdrewN hb nq
      generalize hwq : wr.drewN nq = wq at *
      have hownq : Hid (Owns wq (g + 1) 3 1 (some ⟨ga, 0, none⟩) P.length cap (ivals (P.map fun (i : Nat) => (i : Int)))) := by rw [← hwq]; exact HOWN.out.drewN nq
      clear hwq HOWN hb hcx hcy HPX HPY
      go_loopw [12, 13] (fun c d wr => ∃ (c' d' : Nat), c = .int .i64 c' ∧ d = .int .i64 d' ∧ Hid (Nat.gcd c' d' = G) ∧ 1 ≤ c' ∧ c' ≤ 200 ∧ d' ≤ 200 ∧ Hid (Owns wr (g + 1) 3 1 (some ⟨ga, 0, none⟩) P.length cap (ivals (P.map fun (i : Nat) => (i : Int)))) ∧ Below w.heap.size w wr) (fun c d _ => (intOf d).toNat)
      case atStart => exact ⟨u, v, rfl, rfl, HG2, by omega, by omega, by omega, hownq, hbq⟩
      case round =>
        clear hownq hbq HG2
        obtain ⟨c, d, rfl, rfl, HGC, hc1, hc2, hd2, HOWN, hb⟩ := hrel
        by_cases hd0 : 1 ≤ d
        · have hgs := Kmp.gcd_step c d hd0
          rw [HGC.out] at hgs
          have HGS := Lib.hid hgs; clear hgs
          have hm := Nat.mod_lt c hd0
          have hm2 : (c : Int) % (d : Int) = ((c % d : Nat) : Int) := by omega
          have hd1 : decide ((0 : Int) < (d : Int)) = true := by rw [decide_eq_true_eq]; omega
          have hd1' : (1 : Int) ≤ (d : Int) := by omega
          go_wp2_with fail
          go_quiet (fail)
          go_wp2_with fail
          go_roundw
          case rel => exact ⟨d, c % d, rfl, by first | rfl | rw [← hm2] | go_num, HGS, hd0, by omega, by omega, HOWN, bdrewN hb _⟩
          case measure => simp [intOf]; omega
        · have hd00 : d = 0 := by omega
          have hcG : c = G := by have := HGC.out; rw [hd00] at this; simpa using this
          have hd1 : decide ((0 : Int) < (d : Int)) = false := by rw [decide_eq_false_iff_not]; omega
          have hdI : (d : Int) ≤ 0 := by omega
          have hdN : ¬ 0 < d := by omega
          clear hd00 hd0
          by_cases hbig : p.size + c < u + v
          · have hbg : decide ((p.size : Int) < (u : Int) + (v : Int) - (c : Int)) = true := by rw [decide_eq_true_eq]; omega
            clear hbig hcG
            go_wp2_with fail
            go_ret
            exact ⟨rfl, hb⟩
          · have hbg : decide ((p.size : Int) < (u : Int) + (v : Int) - (c : Int)) = false := by rw [decide_eq_false_iff_not]; omega
            have hmem : (c : Int) ∈ P.map fun (i : Nat) => (i : Int) := by
              have := HWF2.out (by omega)
              rw [← hcG] at this
              exact List.mem_map.2 ⟨_, this, rfl⟩
            have HM := Lib.hid hmem; clear hmem hcG hbig
            go_wp2_with fail
            refine (Contains_any _ _ _ (P.map fun (i : Nat) => (i : Int)) (c : Int) _ (by simp) (by omega) HOWN.out.readsI).mono ?_
            rintro e w6 ⟨rfl, rfl⟩
            rw [decide_eq_true HM.out]
            go_wp2_with fail
            go_ret
            exact ⟨rfl, hb⟩
end Go.Proofs.Ytdjddiajnalffaa
