/- Contract of xxd.Dump. -/
import Derived.Test.YtenhblpegobbjaaDoorDumpA
namespace Go.Proofs.YtenhblpegobbjaaDoor
open Go.RowKit
set_option linter.unusedVariables false
set_option linter.unusedSimpArgs false
theorem dump_length (s : List UInt8) (c g : Nat) (hg : 1 ≤ g) (hc : c ≤ 256) (hgc : g ≤ c) : ∀ n, (Xx.dump s c g n).length ≤ 1300 * n
  | 0 => by simp [Xx.dump, Xx.linesOf]
  | n + 1 => by
    have ih := dump_length s c g hg hc hgc n
    have h1 := Xx.lineOf_length c g (n * c) hg (Xx.row s c n) (Xx.row_len s c n)
    have h2 := Xx.row_len s c n
    have h3 : (c + g - 1) / g ≤ 511 := Nat.le_trans (Nat.div_le_self _ _) (by omega)
    rw [Xx.dump_succ, List.length_append, List.length_append, h1]
    simp only [List.length_cons, List.length_nil]
    omega
set_option maxRecDepth 100000 in
set_option maxHeartbeats 2000000 in
theorem Dump_any (s : List UInt8) (c g : Nat) (w : World) (hs : s.length ≤ 4000) (hc1 : 1 ≤ c) (hc : c ≤ 256) (hg : 1 ≤ g) (hgc : g ≤ c) :
    Calls Tryd.prog 7 #[.string (bstr s), .int .i64 (c : Nat), .int .i64 (g : Nat)] w fun e w' => e = .returned (.tuple #[.string (bstr (Xx.dump s c g (Xx.rows s c))), .nilIface]) ∧ Below w.heap.size w w' := by
  have hfr := IsB.fresh w
  have hb0 := (Below.refl w.heap.size w).alloc (Nat.le_refl _) (.cells #[.pointer none, .slice none 0 0] 43)
  have HFR := Lib.hid hfr; have HB0 := Lib.hid hb0
  have d1 : decide ((c : Int) < 1) = false := decide_eq_false (by omega)
  have d1n : decide (c < 1) = false := decide_eq_false (by omega)
  have d2 : decide ((256 : Int) < (c : Int)) = false := decide_eq_false (by omega)
  have d2n : decide (256 < c) = false := decide_eq_false (by omega)
  have d3 : decide ((g : Int) < 1) = false := decide_eq_false (by omega)
  have d3n : decide (g < 1) = false := decide_eq_false (by omega)
  have d4 : decide ((c : Int) < (g : Int)) = false := decide_eq_false (by omega)
  have d4n : decide (c < g) = false := decide_eq_false (by omega)
  have hg0 : (g : Int) ≠ 0 := by omega
  clear hfr hb0
  obtain ⟨Q, hQ⟩ : ∃ Q, Q = (c + g - 1) / g := ⟨_, rfl⟩
  have hQ2 : ((c : Int) + (g : Int) - 1) / (g : Int) = (Q : Int) := by
    rw [hQ, Int.natCast_ediv]
    congr 1
    omega
  have hQl : Q ≤ 511 := by rw [hQ]; exact Nat.le_trans (Nat.div_le_self _ _) (by omega)
  obtain ⟨W, hW⟩ : ∃ W, W = 2 * c + Q := ⟨_, rfl⟩
  have hWi : 2 * (c : Int) + (Q : Int) = (W : Int) := by rw [hW]; omega
  have hWw : wrap64 (W : Int) = (W : Int) := IntWalk.wrap64_in _ ⟨by omega, by omega⟩
  have HQ := Lib.hid hQ; have HW := Lib.hid hW
  have hW2 : W ≤ 2000 := by omega
  clear hQ hW
  go_enter Tryd.func7, Tryd.ntmps7
  go_wp2_with fail
  generalize hB : w.heap.size = B at *
  have HB := Lib.hid hB; clear hB
  clear hQ2 hWi hWw d1 d1n d2 d2n d3 d3n d4 d4n
  go_loopw [10, 11, 12, 13, 14, 15] (fun v10 _ _ _ _ _ wr => ∃ k : Nat, k ≤ Xx.rows s c ∧ v10 = .int .i64 ((k * c : Nat) : Int) ∧ Hid (IsB B B (Xx.dump s c g k) wr) ∧ Hid (Below B w wr) ∧ B ≤ wr.heap.size) (fun v10 _ _ _ _ _ _ => s.length + c - (intOf v10).toNat)
  case atStart => exact ⟨0, by omega, by simp, HFR, HB0, by rw [← HB.out]; simp⟩
  case round =>
    obtain ⟨k, hk, rfl, HI, HBW, hBw⟩ := hrel
    have hrl := Xx.rows_lt s c k hc1
    by_cases hlt : k < Xx.rows s c
    · have hks := hrl.1 hlt
      have hcut := row_cut s c k
      have hpl := dump_length s c g hg hc hgc k
      have hkb : k ≤ 4000 := by
        have : k * 1 ≤ k * c := Nat.mul_le_mul_left _ hc1
        omega
      have hsucc := Xx.dump_succ s c g k
      have hrw := Xx.row_len s c k
      have hk1 : (k + 1) * c = k * c + c := by rw [Nat.add_mul, Nat.one_mul]
      have hki : ((k * c : Nat) : Int) < (s.length : Int) := by omega
      obtain ⟨a, ha⟩ : ∃ a, a = k * c := ⟨_, rfl⟩
      obtain ⟨E, hE⟩ : ∃ E, E = min (k * c + c) s.length := ⟨_, rfl⟩
      have hmin : min ((a : Int) + (c : Int)) (s.length : Int) = (E : Int) := by rw [ha, hE]; omega
      have haE : a ≤ E := by rw [ha, hE]; omega
      have hEs : E ≤ s.length := by rw [hE]; omega
      have hfew := fun i => Xx.grp_few g c hg ((Xx.row s c k).take i) (by rw [List.length_take]; omega)
      rw [← hE, ← ha] at hcut
      rw [← ha] at hki hk1
      unfold Xx.lineOf at hsucc
      rw [← ha, ← HQ.out, ← HW.out] at hsucc
      have hks' : k * c < s.length := hks
      rw [← ha] at hks' ⊢
      have hpr := fun w => Print16 a w (by omega)
      have hsh := fun w => Shown_any (Xx.row s c k) w (by omega)
      have hwr : (Xx.shown (Xx.row s c k)).length = (Xx.row s c k).length := by unfold Xx.shown; rw [List.length_map]
      have hp8 : (Digits.ds 16 a 8).length = 8 := Digits.ds_length 16 a 8
      have hau : IntKind.u64.wrap (a : Int) = (a : Int) := by rw [IntKind.wrap_u64]; omega
      generalize Xx.row s c k = R at *
      generalize Xx.dump s c g k = D at *
      generalize Digits.ds 16 a 8 = P8 at *
      have HSU := Lib.hid hsucc
      have HA := Lib.hid ha
      have HK1 := Lib.hid hk1
      have HPR := Lib.hid hpr; have HSH := Lib.hid hsh; have HFEW := Lib.hid hfew; have HWR := Lib.hid hwr; have HP8 := Lib.hid hp8
      have hDl : D.length ≤ 5200000 := by omega
      have hR : R.length ≤ 256 := by omega
      have q1 : ¬ 9223372036854775807 < P8.length + 1 := by omega
      have hcat := cat1 P8 58
      clear hsucc ha hE hrw hpl hrl hks hk1 hpr hsh hfew hwr hp8
      go_wp2_with fail
      refine (HPR.out _).mono ?_
      rintro e w1 ⟨rfl, hb1⟩
      have hi1 := HI.out.below hb1
      have hB1 := HBW.out.trans (hb1.mono hBw)
      have hs1 := hb1.size
      have HI1 := Lib.hid hi1; have HB1 := Lib.hid hB1
      clear hi1 hB1 hb1
      go_wp2_with fail
      refine (WriteString_any B B D (P8 ++ [58]) _ HI1.out (by rw [List.length_append]; simp; have := HP8.out; omega) (by omega)).mono ?_
      rintro e w2 ⟨rfl, hi2, hb2, _⟩
      have HI2 := Lib.hid hi2; have HB2 := Lib.hid (HB1.out.trans hb2)
      have hs2 := hb2.size
      clear hi2 hb2 hcat
      go_wp2_with fail
      obtain ⟨w0, hw0⟩ : ∃ w0, w0 = w2 := ⟨_, rfl⟩
      go_loopw [14, 15, 68] (fun v14 _ v68 wr => ∃ (i : Nat) (G : List UInt8), i ≤ R.length ∧ v68 = .int .i64 (i : Int) ∧ v14 = .int .i64 (G.length : Int) ∧ G.length ≤ 2000 ∧ Hid (G = Xx.grp g 0 (R.take i)) ∧ Hid (IsB B B (D ++ (P8 ++ [58]) ++ G) wr) ∧ Hid (Below B w wr) ∧ B ≤ wr.heap.size) (fun _ _ v68 _ => R.length - (intOf v68).toNat)
      case atStart => exact ⟨0, [], by omega, rfl, rfl, by simp, Lib.hid (by simp [Xx.grp]), Lib.hid (by rw [List.append_nil]; exact HI2), HB2, by omega⟩
      case round =>
        obtain ⟨i, G, hi, rfl, rfl, hGl, HG, HIi, HBi, hBi⟩ := hrel
        by_cases hlt2 : i < R.length
        · have hii : (i : Int) < (R.length : Int) := by omega
          have htk : R.take (i + 1) = R.take i ++ [R.getD i 0] := by
            rw [List.take_succ_eq_append_getElem hlt2, List.getD_eq_getElem?_getD, List.getElem?_eq_getElem hlt2]; rfl
          have hgs := Xx.grp_snoc g (R.getD i 0) (R.take i) 0
          have hfw := HFEW.out (i + 1)
          rw [← HQ.out, ← HW.out] at hfw
          rw [← htk, ← HG.out, List.length_take, Nat.min_eq_left hi, Nat.zero_add] at hgs
          rw [hgs] at hfw
          have hcx : (bstr R).extract i (i + 1) = bstr [R.getD i 0] := by
            apply ByteArray.ext
            apply Array.ext'
            rw [ByteArray.data_extract, Array.toList_extract]
            show (R.drop i).take (i + 1 - i) = [R.getD i 0]
            rw [show i + 1 - i = 1 by omega, List.drop_eq_getElem_cons hlt2, List.getD_eq_getElem?_getD, List.getElem?_eq_getElem hlt2]
            rfl
          have hx1 := fun w => Hex_any [R.getD i 0] w (by simp)
          rw [show Digits.hex [R.getD i 0] = Digits.two (R.getD i 0) by simp [Digits.hex]] at hx1
          have ht2 : (Digits.two (R.getD i 0)).length = 2 := rfl
          generalize R.getD i 0 = x at *
          generalize Digits.two x = X2 at *
          obtain ⟨r, hr⟩ : ∃ r, r = i % g := ⟨_, rfl⟩
          have hri : (i : Int) % (g : Int) = (r : Int) := by rw [hr]; rfl
          rw [← hr] at hgs hfw
          have HGS := Lib.hid hgs; have HX1 := Lib.hid hx1; have HT2 := Lib.hid ht2
          clear htk hgs hx1 hr ht2
          by_cases hr0 : r = 0
          · rw [if_pos hr0] at hfw HGS
            simp only [List.length_append, List.length_cons] at hfw
            rw [HT2.out] at hfw
            have hrz : decide ((r : Int) = 0) = true := decide_eq_true (by omega)
            have hrz2 : ((r : Int) == 0) = true := by rw [hr0]; rfl
            clear hr0
            go_wp2_with fail
            refine (WriteString_any B B _ [32] _ HIi.out (by have := HP8.out; simp; omega) (by omega)).mono ?_
            rintro e w3 ⟨rfl, hi3, hb3, _⟩
            have HI3 := Lib.hid hi3; have HB3 := Lib.hid (HBi.out.trans hb3)
            have hs3 := hb3.size
            clear hi3 hb3
            go_wp2_with fail
            refine (HX1.out _).mono ?_
            rintro e w4 ⟨rfl, hb4⟩
            have hi4 := HI3.out.below hb4
            have hB4 := HB3.out.trans (hb4.mono (by omega))
            have hs4 := hb4.size
            have HI4 := Lib.hid hi4; have HB4 := Lib.hid hB4
            clear hi4 hB4 hb4
            go_wp2_with fail
            refine (WriteString_any B B _ X2 _ HI4.out (by have := HP8.out; have := HT2.out; simp; omega) (by omega)).mono ?_
            rintro e w5 ⟨rfl, hi5, hb5, _⟩
            have HI5 := Lib.hid hi5; have HB5 := Lib.hid (HB4.out.trans hb5)
            have hs5 := hb5.size
            clear hi5 hb5
            go_wp2_with fail
            go_roundw
            case rel =>
             exact ⟨i + 1, G ++ 32 :: X2, by omega, by go_num, by have := HT2.out; simp [this]; omega, by have := HT2.out; simp [this]; omega, Lib.hid HGS.out.symm, Lib.hid (by have := HI5.out; simpa [List.append_assoc] using this), HB5, by omega⟩
            case measure => simp [intOf]; omega
          · rw [if_neg hr0] at hfw HGS
            simp only [List.length_append] at hfw
            rw [HT2.out] at hfw
            have hrz : decide ((r : Int) = 0) = false := decide_eq_false (by omega)
            have hrz2 : ((r : Int) == 0) = false := by rw [beq_eq_false_iff_ne]; omega
            clear hr0
            go_wp2_with fail
            refine (HX1.out _).mono ?_
            rintro e w4 ⟨rfl, hb4⟩
            have hi4 := HIi.out.below hb4
            have hB4 := HBi.out.trans (hb4.mono (by omega))
            have hs4 := hb4.size
            have HI4 := Lib.hid hi4; have HB4 := Lib.hid hB4
            clear hi4 hB4 hb4
            go_wp2_with fail
            refine (WriteString_any B B _ X2 _ HI4.out (by have := HP8.out; have := HT2.out; simp; omega) (by omega)).mono ?_
            rintro e w5 ⟨rfl, hi5, hb5, _⟩
            have HI5 := Lib.hid hi5; have HB5 := Lib.hid (HB4.out.trans hb5)
            have hs5 := hb5.size
            clear hi5 hb5
            go_wp2_with fail
            go_roundw
            case rel => exact ⟨i + 1, G ++ X2, by omega, by go_num, by have := HT2.out; simp [this], by have := HT2.out; simp [this]; omega, Lib.hid HGS.out.symm, Lib.hid (by have := HI5.out; simpa [List.append_assoc] using this), HB5, by omega⟩
            case measure => simp [intOf]; omega
        · obtain rfl : i = R.length := by omega
          have hd : decide ((R.length : Int) < (R.length : Int)) = false := by simp
          have hgf := HFEW.out R.length
          rw [← HG.out, ← HQ.out, ← HW.out] at hgf
          have htk : R.take R.length = R := List.take_length
          obtain ⟨z, hz⟩ : ∃ z, z = W - G.length := ⟨_, rfl⟩
          have hsub : (W : Int) - (G.length : Int) = (z : Int) := by omega
          have hz2 : z ≤ 2000 := by omega
          have hrp := fun w => Repeat_blank (z + 2) w (by omega)
          have hrl2 : (List.replicate (z + 2) (32 : UInt8)).length ≤ 2002 := by simp; omega
          have hfin : D ++ (P8 ++ [58]) ++ G ++ (List.replicate (z + 2) 32 ++ (Xx.shown R ++ [10])) = Xx.dump s c g (k + 1) := by
            rw [HSU.out, ← htk, ← HG.out, htk, hz]
            simp [List.append_assoc]
          have HFIN := Lib.hid hfin
          have hwr := HWR.out
          have hshn := HSH.out
          generalize List.replicate (z + 2) (32 : UInt8) = RP at *
          generalize Xx.shown R = SR at *
          have HRP := Lib.hid hrp; have HSHN := Lib.hid hshn
          have hSR : SR.length ≤ 256 := by omega
          have q2 : ¬ 9223372036854775807 < RP.length + SR.length := by omega
          have q3 : ¬ 9223372036854775807 < RP.length + SR.length + 1 := by omega
          have hcat2 := cat1 (RP ++ SR) 10
          have hcat3 := bstr_append RP SR
          clear htk hgf hrp hfin hwr hshn hz
          go_wp2_with fail
          rw [show ((z : Int) + 2) = ((z + 2 : Nat) : Int) from rfl]
          refine (HRP.out _).mono ?_
          rintro e w3 ⟨rfl, hb3⟩
          have hi3 := HIi.out.below hb3
          have hB3 := HBi.out.trans (hb3.mono hBi)
          have hs3 := hb3.size
          have HI3 := Lib.hid hi3; have HB3 := Lib.hid hB3
          clear hi3 hB3 hb3
          go_wp2_with fail
          refine (HSHN.out _).mono ?_
          rintro e w4 ⟨rfl, hb4⟩
          have hi4 := HI3.out.below hb4
          have hB4 := HB3.out.trans (hb4.mono (by omega))
          have hs4 := hb4.size
          have HI4 := Lib.hid hi4; have HB4 := Lib.hid hB4
          clear hi4 hB4 hb4
          go_wp2_with fail
          refine (WriteString_any B B _ (RP ++ (SR ++ [10])) _ HI4.out (by have := HP8.out; simp; omega) (by omega)).mono ?_
          rintro e w5 ⟨rfl, hi5, hb5, _⟩
          have HI5 := Lib.hid hi5; have HB5 := Lib.hid (HB4.out.trans hb5)
          have hs5 := hb5.size
          clear hi5 hb5
          go_wp2_with fail
          go_roundw
          case rel => exact ⟨k + 1, by omega, by rw [HK1.out]; rfl, by rw [← HFIN.out]; exact HI5, HB5, by omega⟩
          case measure => simp [intOf]; omega
    · have hks : ¬ k * c < s.length := fun h => hlt (hrl.2 h)
      obtain rfl : k = Xx.rows s c := by omega
      have hki : ¬ ((Xx.rows s c * c : Nat) : Int) < (s.length : Int) := by omega
      clear hlt hrl hk hks
      generalize Xx.rows s c * c = a at *
      go_wp2_with fail
      refine (Bd.string B B _ _ HI.out hBw).mono ?_
      rintro e w5 ⟨rfl, hb5⟩
      have HF := Lib.hid (HBW.out.trans hb5)
      clear hb5
      go_wp2_with fail
      go_ret2
      exact ⟨rfl, by rw [HB.out]; exact HF.out⟩
end Go.Proofs.YtenhblpegobbjaaDoor
