/- Contract of package sums: Force. -/
import Derived.Test.YtdjddiajnalffaaSumsH
namespace Go.Proofs.Ytdjddiajnalffaa
open Go.RowKit
set_option linter.unusedVariables false
set_option linter.unusedSimpArgs false
theorem andNot_none (n k : Nat) (hk : k ≤ 32) (hn : n < 2 ^ k) : bits .andNot .u32 (n : Int) ((2 ^ k - 1 : Nat) : Int) = 0 := by
  have h1 : 2 ^ k ≤ 2 ^ 32 := Nat.pow_le_pow_right (by decide) hk
  rw [u32_andNot_nat _ _ (by omega) (by omega)]
  have : n &&& (4294967295 - (2 ^ k - 1)) = 0 := by
    apply Nat.eq_of_testBit_eq
    intro i
    rw [Nat.testBit_and, Nat.zero_testBit]
    by_cases hi : i < k
    · have e : 4294967295 - (2 ^ k - 1) = 2 ^ 32 - 2 ^ k := by omega
      have e2 : 2 ^ 32 - 2 ^ k = (2 ^ (32 - k) - 1) * 2 ^ k := by
        rw [Nat.sub_mul, ← Nat.pow_add, Nat.one_mul]; congr 2; omega
      rw [e, e2, Nat.testBit_mul_two_pow]
      have : ¬ i ≥ k := by omega
      simp [this]
    · have hp : 2 ^ k ≤ 2 ^ i := Nat.pow_le_pow_right (by decide) (by omega)
      rw [Nat.testBit_lt_two_pow (Nat.lt_of_lt_of_le hn hp)]; rfl
  rw [this]; rfl
set_option maxRecDepth 100000 in
set_option maxHeartbeats 2000000 in
theorem Force_any (m : SumP) (s : ByteArray) (a want : Nat) (w : World) (hm : m.Ok) (hs : s.size ≤ 200) (ha : a ≤ s.size) (hwt : want < 2 ^ m.w) :
    Calls Try.prog 24 #[sumVal m, .string s, .int .i64 a, .int .u32 want] w fun e w' =>
      e = .returned (.tuple #[.string (bstr (forced m s.data.toList a want)), .nilIface]) ∧ Below w.heap.size w w' := by
  have hlen : s.data.toList.length = s.size := data_length s
  have hfo : forced m s.data.toList a want = forceL m (foldN m m.i (s.data.toList.take a) ^^^ backK m.w m.p (foldBack m (inN m want) (s.data.toList.drop a)) (8 * (m.w / 8))) := rfl
  generalize hF : forced m s.data.toList a want = F at *
  have HF := Lib.hid hF; clear hF
  have hdrop0 : s.data.toList.drop s.size = [] := by rw [← hlen, List.drop_length]
  generalize hl : s.data.toList = l at *
  have HL := Lib.hid hl; clear hl
  have hwl := w_le m hm
  have hw32 : m.w ≤ 32 := by have := hm.w; omega
  have hw8 : 8 ≤ m.w := by have := hm.w; omega
  have han := andNot_none want m.w hw32 hwt
  have hmask := fun w => mask_any m.w w hm.w
  generalize 2 ^ m.w - 1 = M at *
  have HMASK := Lib.hid hmask; clear hmask
  have haI : (a : Int) ≤ (s.size : Int) := by omega
  have hd1 : decide (s.size < a) = false := by rw [decide_eq_false_iff_not]; omega
  have hd2 : decide ((s.size : Int) < (a : Int)) = false := by rw [decide_eq_false_iff_not]; omega
  have hd3 : decide ((a : Int) < 0) = false := by rw [decide_eq_false_iff_not]; omega
  unfold sumVal sumCells
  go_enter Try.func24, Try.ntmps24
  go_wp2_with fail
  refine (Right_yes m _ hm).mono ?_
  rintro e w1 ⟨rfl, hb1⟩
  have hrow := (RowAt.new w 25 (sumCells m)).below hb1 (by simp [sumCells])
  have hb := ((Below.refl w.heap.size w).alloc (Nat.le_refl _) (.cells (sumCells m) 25)).trans (hb1.mono (by simp [sumCells]))
  clear hb1
  have hc0 := hrow.cell0 0 (by simp [sumCells])
  have hc3 := hrow.cell0 3 (by simp [sumCells])
  simp only [sumCells, List.getElem_cons_zero, List.getElem_cons_succ] at hc0 hc3
  generalize hB : w.heap.size = B at *
  have HB := Lib.hid hB; clear hB
  go_wp2_with fail
  refine (HMASK.out _).mono ?_
  rintro e w2 ⟨rfl, rfl⟩
  go_wp2_with fail
  go_loopw [10, 42] (fun v i wr => ∃ k : Nat, k ≤ a ∧ i = .int .i64 k ∧ v = .int .u32 (foldN m m.i (l.take k) : Nat) ∧ RowAt wr B 0 25 (sumCells m).toList ∧ Below B w wr) (fun v i _ => a - (intOf i).toNat)
  case atStart => exact ⟨0, by omega, rfl, rfl, hrow, hb⟩
  case round =>
    clear hrow hb hc3 hc0
    obtain ⟨k, hk, rfl, rfl, hrow, hb⟩ := hrel
    have hfl := foldN_lt m hm (l.take k) m.i hm.i
    have hlB := hrow.lt
    generalize hR : foldN m m.i (l.take k) = R at *
    have HR := Lib.hid hR; clear hR
    by_cases hlt : k < a
    · have hc0 := hrow.cell0 0 (by simp [sumCells])
      have hc1 := hrow.cell0 1 (by simp [sumCells])
      have hc2 := hrow.cell0 2 (by simp [sumCells])
      have hc3 := hrow.cell0 3 (by simp [sumCells])
      have hc4 := hrow.cell0 4 (by simp [sumCells])
      simp only [sumCells, List.getElem_cons_zero, List.getElem_cons_succ] at hc0 hc1 hc2 hc3 hc4
      have hlt2 : k < s.size := by omega
      have hsn := foldN_take m m.i l k (by omega)
      rw [HR.out] at hsn
      have hb8 : (l.getD k 0).toNat < 256 := UInt8.toNat_lt _
      have hbe : s[k].toNat = (l.getD k 0).toNat := by rw [byteAt s k hlt2, HL.out]
      generalize (l.getD k 0).toNat = c at *
      have HBE := Lib.hid hbe; clear hbe
      have HSN := Lib.hid hsn; clear hsn
      go_wp2_with fail
      go_still_tail 5, (by kernel_rfl)
      change wpList _ _ _ _ _ wr.drew
      go_wp2_with fail
      rw [HBE.out]
      refine (step_any m R c _ hm hfl hb8).mono ?_
      rintro e w2 ⟨rfl, hb2⟩
      go_wp2_with fail
      go_roundw
      case rel => exact ⟨k + 1, by omega, by go_num, by rw [HSN.out], hrow.drew.below hb2 hlB, hb.drew.trans (hb2.mono (Nat.le_of_lt hlB))⟩
      case measure => simp [intOf]; omega
    · obtain rfl : k = a := by omega
      have hc0 := hrow.cell0 0 (by simp [sumCells])
      have hc1 := hrow.cell0 1 (by simp [sumCells])
      have hc2 := hrow.cell0 2 (by simp [sumCells])
      have hc3 := hrow.cell0 3 (by simp [sumCells])
      have hc4 := hrow.cell0 4 (by simp [sumCells])
      simp only [sumCells, List.getElem_cons_zero, List.getElem_cons_succ] at hc0 hc1 hc2 hc3 hc4
      go_wp2_with fail
      refine (in_any m want _ hm hwt).mono ?_
      rintro e w2 ⟨rfl, hb2⟩
      have hin := inN_lt m hm want hwt
      generalize hT0 : inN m want = T at *
      have HT0 := Lib.hid hT0; clear hT0
      go_wp2_with fail
      replace hrow := hrow.below hb2 hlB
      replace hb := hb.trans (hb2.mono (Nat.le_of_lt hlB))
      clear hc0 hc1 hc2 hc3 hc4
      go_loopw [12, 13] (fun v i wr => ∃ j : Nat, k ≤ j ∧ j ≤ s.size ∧ i = .int .i64 ((j : Int) - 1) ∧ v = .int .u32 (foldBack m T (l.drop j) : Nat) ∧ RowAt wr B 0 25 (sumCells m).toList ∧ Below B w wr) (fun v i _ => (intOf i + 1).toNat)
      case atStart => exact ⟨s.size, by omega, by omega, by go_num, by rw [hdrop0]; rfl, hrow, hb⟩
      case round =>
        clear hrow hb
        obtain ⟨j, hj1, hj2, rfl, rfl, hrow, hb⟩ := hrel
        have hfb := foldBack_lt m hm T hin (l.drop j)
        have hlB := hrow.lt
        have hc0 := hrow.cell0 0 (by simp [sumCells])
        have hc1 := hrow.cell0 1 (by simp [sumCells])
        have hc2 := hrow.cell0 2 (by simp [sumCells])
        have hc3 := hrow.cell0 3 (by simp [sumCells])
        have hc4 := hrow.cell0 4 (by simp [sumCells])
        simp only [sumCells, List.getElem_cons_zero, List.getElem_cons_succ] at hc0 hc1 hc2 hc3 hc4
        generalize hY : foldBack m T (l.drop j) = Y at *
        have HY := Lib.hid hY; clear hY
        by_cases hkj : k < j
        · obtain ⟨i, rfl⟩ : ∃ i, j = i + 1 := ⟨j - 1, by omega⟩
          have hij : ((i + 1 : Nat) : Int) - 1 = (i : Int) := by omega
          rw [hij]
          have hlt2 : i < s.size := by omega
          have hki : (k : Int) ≤ (i : Int) := by omega
          have hsn := foldBack_drop m T l i (by omega)
          rw [HY.out] at hsn
          have hb8 : (l.getD i 0).toNat < 256 := UInt8.toNat_lt _
          have hbe : s[i].toNat = (l.getD i 0).toNat := by rw [byteAt s i hlt2, HL.out]
          generalize (l.getD i 0).toNat = c at *
          have HBE := Lib.hid hbe; clear hbe
          have HSN := Lib.hid hsn; clear hsn
          go_wp2_with fail
          go_still_tail 5, (by kernel_rfl)
          change wpList _ _ _ _ _ wr.drew
          go_wp2_with fail
          rw [HBE.out]
          refine (back_any m Y c _ hm hfb hb8).mono ?_
          rintro e w2 ⟨rfl, hb2⟩
          go_wp2_with fail
          go_roundw
          case rel => exact ⟨i, by omega, by omega, by go_num, by rw [HSN.out], hrow.drew.below hb2 hlB, hb.drew.trans (hb2.mono (Nat.le_of_lt hlB))⟩
          case measure => simp [intOf]
        · obtain rfl : j = k := by omega
          have hw8d : (m.w : Int) / 8 = ((m.w / 8 : Nat) : Int) := by simp
          have hnl : m.w / 8 ≤ 4 := by have := hm.w; omega
          have hnw : m.w / 8 * 8 = m.w := by have := hm.w; omega
          generalize m.w / 8 = n at *
          have hw8t : (m.w : Int).tdiv 8 = (n : Int) := by rw [Int.tdiv_eq_ediv_of_nonneg (by omega)]; exact hw8d
          have hwn : IntKind.i64.wrap (n : Int) = (n : Int) := IntWalk.i64_in _ ⟨by omega, by omega⟩
          clear hc1 hc2 hc3 hc4
          go_wp2_with fail
          clear hc0
          have hbk := fun i => backK_lt m.w m.p Y hm.pos hm.odd hm.p hfb i
          go_loopw [12, 73] (fun v i wr => ∃ q : Nat, q ≤ n ∧ i = .int .i64 q ∧ v = .int .u32 (backK m.w m.p Y (8 * q) : Nat) ∧ RowAt wr B 0 25 (sumCells m).toList ∧ Below B w wr) (fun v i _ => n - (intOf i).toNat)
          case atStart => exact ⟨0, by omega, rfl, rfl, hrow, hb⟩
          case round =>
            clear hrow hb
            obtain ⟨q, hq, rfl, rfl, hrow, hb⟩ := hrel
            have hlB := hrow.lt
            have hc0 := hrow.cell0 0 (by simp [sumCells])
            have hc1 := hrow.cell0 1 (by simp [sumCells])
            have hc2 := hrow.cell0 2 (by simp [sumCells])
            have hc3 := hrow.cell0 3 (by simp [sumCells])
            have hc4 := hrow.cell0 4 (by simp [sumCells])
            simp only [sumCells, List.getElem_cons_zero, List.getElem_cons_succ] at hc0 hc1 hc2 hc3 hc4
            have hZl := hbk (8 * q)
            have hZs : backN m (backK m.w m.p Y (8 * q)) 0 = backK m.w m.p Y (8 * (q + 1)) := by
              rw [backN, cOf_zero, Nat.zero_mul, Nat.xor_zero, backK_add]; rfl
            generalize hZ : backK m.w m.p Y (8 * q) = Z at *
            have HZ := Lib.hid hZ; clear hZ
            have HZS := Lib.hid hZs; clear hZs
            by_cases hqn : q < n
            · go_wp2_with fail
              refine (back_any m Z 0 _ hm hZl (by decide)).mono ?_
              rintro e w2 ⟨rfl, hb2⟩
              go_wp2_with fail
              go_roundw
              case rel => exact ⟨q + 1, by omega, by go_num, by rw [HZS.out], hrow.below hb2 hlB, hb.trans (hb2.mono (Nat.le_of_lt hlB))⟩
              case measure => simp [intOf]; omega
            · obtain rfl : q = n := by omega
              obtain ⟨i0, hi0, hz0, hz1, hz2⟩ := info_parts infoU8
              have hx := u32_xor_nat R Z (by omega) (by omega)
              have hD : R ^^^ Z < 2 ^ m.w := Nat.xor_lt_two_pow hfl hZl
              have hFF : F = forceL m (R ^^^ Z) := by rw [hfo, HR.out, HY.out, HZ.out]
              generalize R ^^^ Z = D at *
              go_wp2_with (at_make; with_reducible refine wpList_make0 _ rfl _ _ _ rfl 5 i0 (.int .u8 0) Try.underlying79 hi0 hz0 hz1 rfl .i64 .i64 _ _ q rfl rfl rfl rfl (by rw [hz2]; omega) (by unfold maxLen; omega) ?_; intro w1 hrow2 hb2 hsz)
              have hq8 : m.w / 8 = q := by omega
              have hFL : F.length = q := by rw [hFF, forceL_length, hq8]
              have hFG : ∀ k, k < q → F.getD k 0 = UInt8.ofNat (forceB m D k) := fun k hk => by rw [hFF, forceL_get m D k (by omega)]
              clear hFF hfo hx
              rw [← hFL, ← fillTo_zero] at hrow2
              replace hrow := hrow.below hb2 hlB
              replace hb := hb.trans (hb2.mono (Nat.le_of_lt hlB))
              clear hc0 hc1 hc2 hc3 hc4 hb2 hbk
              generalize hG : wr.heap.size = g at *
              clear hG
              have HFG := Lib.hid hFG; clear hFG
              have hne : B ≠ g := by omega
              go_loopw [85] (fun i wr => ∃ k : Nat, k ≤ q ∧ i = .int .i64 k ∧ RowAt wr g 0 5 (bvals (fillTo F k)) ∧ RowAt wr B 0 25 (sumCells m).toList ∧ Below B w wr) (fun i _ => q - (intOf i).toNat)
              case atStart => exact ⟨0, by omega, rfl, hrow2, hrow, hb⟩
              case round =>
                clear hrow hrow2 hb hsz
                obtain ⟨k, hk, rfl, hrow2, hrow, hb⟩ := hrel
                have hfl := fillTo_length F k (by omega)
                by_cases hkq : k < q
                · have hcell := hrow2.byte0 k (by omega)
                  have hfr := hrow2.frozen0 k (by rw [bvals_length]; omega)
                  have hc0 := hrow.cell0 0 (by simp [sumCells])
                  have hc2 := hrow.cell0 2 (by simp [sumCells])
                  simp only [sumCells, List.getElem_cons_zero, List.getElem_cons_succ] at hc0 hc2
                  have hv := HFG.out k hkq
                  have hsI : (m.w : Int) - 8 - 8 * (k : Int) = ((m.w - 8 - 8 * k : Nat) : Int) := by omega
                  have hsI0 : (0 : Int) ≤ (m.w : Int) - 8 - 8 * (k : Int) := by omega
                  have hsI1 : (m.w : Int) - 8 - 8 * (k : Int) < 32 := by omega
                  have hfB : forceB m D k = cOf m (D / 2 ^ (m.w - 8 - 8 * k) % 256) := rfl
                  have hcast : ((D : Int) / 2 ^ (m.w - 8 - 8 * k)) = ((D / 2 ^ (m.w - 8 - 8 * k) : Nat) : Int) := by simp
                  have hset := fun v => hrow2.set0 k (by rw [bvals_length]; omega) v
                  have hfar := fun v => hrow.far (p := ⟨g, k, none⟩) hne v
                  generalize m.w - 8 - 8 * k = e at *
                  have hcq : D / 2 ^ e ≤ D := Nat.div_le_self _ _
                  generalize D / 2 ^ e = Q at *
                  have hQ : ((Q : Int) % 256) = ((Q % 256 : Nat) : Int) := by omega
                  have hQl : Q % 256 < 256 := Nat.mod_lt _ (by decide)
                  generalize Q % 256 = c at *
                  cases ht : m.t
                  · rw [ht] at hc2
                    have hcc : cOf m c = c := by simp [cOf, ht]
                    rw [hcc] at hfB
                    have hval : (.int .u8 (c : Int) : Value) = bval (F.getD k 0) := by rw [hv, hfB, bval, ofNat_byte _ hQl]
                    have HV := Lib.hid hval; clear hval hv
                    go_wp2_with fail
                    go_roundw
                    case rel => exact ⟨k + 1, by omega, by go_num, hrow2.fill (by omega) HV.out, hfar _, hb.setCell (p := ⟨g, k, none⟩) (Nat.le_of_lt hlB) _⟩
                    case measure => simp [intOf]; omega
                  · rw [ht] at hc2
                    have hcc : cOf m c = turnTo c 8 := by simp [cOf, ht]
                    rw [hcc] at hfB
                    have htl : turnTo c 8 < 256 := turnTo_lt c 8
                    have hval : (.int .u8 ((turnTo c 8 : Nat) : Int) : Value) = bval (F.getD k 0) := by rw [hv, hfB, bval, ofNat_byte _ htl]
                    have htu := fun w => turned_any c 8 w (by omega) (by omega)
                    clear hfB hcc
                    generalize turnTo c 8 = cc at *
                    have hmod : (cc : Int) % 256 = (cc : Int) := by omega
                    have HV := Lib.hid hval; clear hval hv
                    have HTU := Lib.hid htu; clear htu
                    go_wp2_with fail
                    refine (HTU.out _).mono ?_
                    rintro e w2 ⟨rfl, rfl⟩
                    go_wp2_with fail
                    go_roundw
                    case rel =>
                      refine ⟨k + 1, by omega, by go_num, ?_, ?_, ?_⟩
                      · have h2 := (hset (.int .u8 (c : Int))).set0 k (by rw [List.length_set, bvals_length]; omega) (.int .u8 (cc : Int))
                        rw [List.set_set, HV.out, bvals_set, fillTo_step _ _ (by omega)] at h2
                        rw [HV.out]; exact h2
                      · exact (hfar _).far (p := ⟨g, k, none⟩) hne _
                      · exact (hb.setCell (p := ⟨g, k, none⟩) (Nat.le_of_lt hlB) _).setCell (p := ⟨g, k, none⟩) (Nat.le_of_lt hlB) _
                    case measure => simp [intOf]; omega
                · obtain rfl : k = q := by omega
                  have hconv := run_string_of (P := Try.prog) 79 5 9 Try.underlying79 Try.underlying5 Try.underlying9 hrow2 k k (by omega)
                  go_wp2_with fail
                  go_ret2
                  refine ⟨?_, by rw [HB.out]; exact hb⟩
                  rw [← hFL, fillTo_full]
                  rfl
end Go.Proofs.Ytdjddiajnalffaa
