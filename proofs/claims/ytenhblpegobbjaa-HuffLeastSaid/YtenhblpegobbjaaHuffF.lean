/- The law HuffKraft. -/
import Derived.Test.YtenhblpegobbjaaHuffE
namespace Go.Proofs.Ytenhblpegobbjaa
open Go.RowKit
set_option linter.unusedVariables false
set_option linter.unusedSimpArgs false
open Huff
namespace CfCnt
def p (x : Int) : Bool := decide (x < 0) || decide ((1099511627776 : Int) < x)
theorem asked (x : Int) (w : World) : Calls Try.prog 75 #[.int .i64 x] w fun e w' => e = .returned (.bool (p x)) ∧ w = w' := by
  unfold p
  by_cases h1 : x < 0
  · have d1 : decide (x < 0) = true := decide_eq_true h1
    rw [d1, Bool.true_or]
    go_enter Try.func75, Try.ntmps75
    go_wp2_with fail
    go_ret
    exact ⟨rfl, rfl⟩
  · have d1 : decide (x < 0) = false := decide_eq_false h1
    rw [d1, Bool.false_or]
    by_cases h2 : (1099511627776 : Int) < x
    · have d2 : decide ((1099511627776 : Int) < x) = true := decide_eq_true h2
      rw [d2]
      go_enter Try.func75, Try.ntmps75
      go_wp2_with fail
      go_ret
      exact ⟨rfl, rfl⟩
    · have d2 : decide ((1099511627776 : Int) < x) = false := decide_eq_false h2
      rw [d2]
      go_enter Try.func75, Try.ntmps75
      go_wp2_with fail
      go_ret
      exact ⟨rfl, rfl⟩
def Found (L : List Int) (w : World) (e : Ending) (w' : World) : Prop := ∃ r : Int, e = .returned (.int .i64 r) ∧ w = w' ∧ -1 ≤ r ∧ r ≤ 140737488351232 ∧ decide (0 ≤ r) = L.any p
set_option maxRecDepth 100000 in
theorem index (a : Option Addr) (n c : Nat) (L : List Int) (w : World) (h : RdI w a L) (hl : L.length = n) (hn9 : n ≤ 140737488351232) :
    Calls Try.prog 104 #[.slice a n c, .func (.func 75) #[] #[]] w (Found L w) := by
  have HL := Lib.hid hl; clear hl
  have HH := Lib.hid h; clear h
  go_enter Try.func104, Try.ntmps104
  go_wp2_with fail
  go_loop [8] (fun i => ∃ k : Nat, k ≤ n ∧ i = .int .i64 k ∧ Hid ((L.take k).any p = false)) (fun i => n - (intOf i).toNat)
  case atStart => exact ⟨0, by omega, rfl, Lib.hid (by simp)⟩
  case round =>
    obtain ⟨k, hk, rfl, HQ⟩ := hrel
    by_cases hlt : k < n
    · have hkl : k < L.length := by rw [HL.out]; exact hlt
      obtain ⟨x, rfl, hx, hcell⟩ := HH.out k hkl
      have hps := fun w => asked (L.getD k 0) w
      have htk : (L.take (k + 1)).any p = ((L.take k).any p || p (L.getD k 0)) := by
        rw [List.take_succ_eq_append_getElem hkl, List.any_append, List.getD_eq_getElem?_getD, List.getElem?_eq_getElem hkl]
        simp
      generalize L.getD k 0 = sk at *
      rw [HQ.out, Bool.false_or] at htk
      have HT := Lib.hid htk; clear htk
      have HPS := Lib.hid hps; clear hps
      have hki : (k : Int) < (n : Int) := by omega
      generalize p sk = b at *
      go_wp2_with fail
      refine (HPS.out _).mono ?_
      rintro e w1 ⟨rfl, rfl⟩
      cases b with
      | true =>
        go_wp2_with fail
        go_ret
        refine ⟨k, rfl, rfl, by omega, by omega, ?_⟩
        rw [decide_eq_true (by omega)]
        symm
        rw [List.any_eq_true]
        obtain ⟨y, hy, hpy⟩ := List.any_eq_true.1 HT.out
        exact ⟨y, List.mem_of_mem_take hy, hpy⟩
      | false =>
        go_wp2_with fail
        go_round
        case rel => exact ⟨k + 1, by omega, by go_num, HT⟩
        case measure => simp [intOf]; omega
    · obtain rfl : k = n := by omega
      have hd : decide ((k : Int) < (k : Int)) = false := by simp
      have hq := HQ.out
      rw [List.take_of_length_le (by rw [HL.out]; omega)] at hq
      have HQ2 := Lib.hid hq; clear hq
      go_wp2_with fail
      go_ret
      exact ⟨-1, rfl, rfl, by omega, by omega, by rw [HQ2.out]; rfl⟩
set_option maxRecDepth 100000 in
theorem contains (a : Option Addr) (n c : Nat) (L : List Int) (w : World) (h : RdI w a L) (hl : L.length = n) (hn9 : n ≤ 140737488351232) :
    Calls Try.prog 74 #[.slice a n c, .func (.func 75) #[] #[]] w fun e w' => e = .returned (.bool (L.any p)) ∧ w = w' := by
  have HI := Lib.hid (index a n c L w h hl hn9)
  clear h
  go_enter Try.func74, Try.ntmps74
  go_wp2_with fail
  refine HI.out.mono ?_
  rintro e w1 ⟨r, rfl, rfl, h1, h2, h3⟩
  have HB := Lib.hid h3
  clear h3
  go_wp2_with fail
  go_ret
  exact ⟨ret_bool HB.out, rfl⟩
end CfCnt
namespace Huff
/-- how many of the first k stand anywhere -/
def someTo (C : List Nat) (k : Nat) : Nat := ((List.range k).filter fun i => decide (0 < C.getD i 0)).length
theorem someTo_succ (C : List Nat) (k : Nat) : someTo C (k + 1) = someTo C k + if 0 < C.getD k 0 then 1 else 0 := by
  unfold someTo
  rw [List.range_succ, List.filter_append, List.length_append]
  by_cases h : 0 < C.getD k 0
  · rw [if_pos h, List.filter_cons, if_pos (by simpa using h)]; rfl
  · rw [if_neg h, List.filter_cons, if_neg (by simpa using h)]; rfl
theorem some_count (C : List Nat) (n : Nat) (h : C.length = n) : (some_ C).length = someTo C n := by
  unfold some_ someTo
  rw [h]
/-- the greatest of the first k -/
def mostTo (D : List Nat) : Nat → Nat
  | 0 => 0
  | k + 1 => max (mostTo D k) (D.getD k 0)
theorem mostTo_le (D : List Nat) (B : Nat) (h : ∀ i, D.getD i 0 ≤ B) : ∀ k, mostTo D k ≤ B := by
  intro k
  induction k with
  | zero => exact Nat.zero_le _
  | succ k ih => exact Nat.max_le.2 ⟨ih, h k⟩
theorem le_mostTo (D : List Nat) : ∀ k i, i < k → D.getD i 0 ≤ mostTo D k := by
  intro k
  induction k with
  | zero => intro i h; omega
  | succ k ih =>
    intro i h
    unfold mostTo
    rcases Nat.lt_or_ge i k with hi | hi
    · exact Nat.le_trans (ih i hi) (Nat.le_max_left _ _)
    · obtain rfl : i = k := by omega
      exact Nat.le_max_right _ _
theorem le_most (D : List Nat) (n : Nat) (h : D.length = n) (i : Nat) : D.getD i 0 ≤ mostTo D n := by
  rcases Nat.lt_or_ge i n with hi | hi
  · exact le_mostTo D n i hi
  · rw [List.getD_eq_getElem?_getD, List.getElem?_eq_none (by omega)]; exact Nat.zero_le _
end Huff
/-- how often things stand: few enough to be held -/
def Counted (L : List Int) : Prop := ∀ x ∈ L, 0 ≤ x ∧ x ≤ 1099511627776
theorem any_counted (L : List Int) : L.any CfCnt.p = false ↔ Counted L := by
  rw [List.any_eq_false]
  unfold Counted CfCnt.p
  constructor
  · intro h x hx
    have := h x hx
    simp at this
    omega
  · intro h x hx
    have := h x hx
    simp
    omega
set_option maxRecDepth 100000 in
theorem counted_any (a : Option Addr) (n c : Nat) (L : List Int) (w : World) (h : RdI w a L) (hl : L.length = n) (hn9 : n ≤ 140737488351232) :
    Calls Try.prog 36 #[.slice a n c] w fun e w' => e = .returned (.bool (decide (n ≤ 256) && !L.any CfCnt.p)) ∧ w = w' := by
  have hc := CfCnt.contains a n c L w h hl hn9
  generalize L.any CfCnt.p = b at *
  have HC := Lib.hid hc
  clear hc h
  by_cases h1 : n ≤ 256
  · have d1 : decide ((n : Int) ≤ 256) = true := by rw [decide_eq_true_eq]; omega
    rw [decide_eq_true h1, Bool.true_and]
    go_enter Try.func36, Try.ntmps36
    go_wp2_with fail
    refine HC.out.mono ?_
    rintro e w1 ⟨rfl, rfl⟩
    go_wp2_with fail
    go_ret
    exact ⟨rfl, rfl⟩
  · have d1 : decide ((n : Int) ≤ 256) = false := by rw [decide_eq_false_iff_not]; omega
    rw [decide_eq_false h1, Bool.false_and]
    go_enter Try.func36, Try.ntmps36
    go_wp2_with fail
    go_ret
    exact ⟨rfl, rfl⟩
set_option maxRecDepth 100000 in
set_option maxHeartbeats 2000000 in
theorem HuffKraft_walk (w : World) (a : Option Addr) (n c : Nat) (zs : List Int) (hz : IsInts .i64 w a n c zs) :
    Calls Try.prog 8 #[.slice a n c] w fun e w' => e = .returned (.bool true) ∧ Below w.heap.size w w' := by
  obtain ⟨L, hL⟩ : ∃ L, L = zs.take n := ⟨_, rfl⟩
  have hr := hz.rd
  have hl := hz.take_len
  have hn9 : n ≤ 140737488351232 := by have := hz.len; omega
  rw [← hL] at hr hl
  have HR := Lib.hid hr; have HL := Lib.hid hl
  clear hr hl hL hz
  go_enter Try.func8, Try.ntmps8
  go_wp2_with fail
  refine (coded_any _).mono ?_
  rintro e w1 ⟨rfl, hb1⟩
  have HB1 := Lib.hid hb1
  have HR1 := Lib.hid (HR.out.below hb1 (Nat.le_refl _))
  clear hb1 HR
  have hcn := counted_any a n c L w1 HR1.out HL.out hn9
  by_cases hok : n ≤ 256 ∧ Counted L
  · obtain ⟨hn, hcnt⟩ := hok
    rw [decide_eq_true hn, (any_counted L).2 hcnt] at hcn
    have HCN := Lib.hid hcn; have HCT := Lib.hid hcnt
    clear hcn hcnt
    obtain ⟨C, hC⟩ : ∃ C, C = L.map Int.toNat := ⟨_, rfl⟩
    have hCl : C.length = n := by rw [hC, List.length_map]; exact HL.out
    have hget : ∀ i, i < n → L.getD i 0 = ((C.getD i 0 : Nat) : Int) := by
      intro i hi
      have h1 := HCT.out _ (mem_getD L i (by rw [HL.out]; exact hi))
      have hil : i < L.length := by rw [HL.out]; exact hi
      rw [hC]
      simp only [List.getD_eq_getElem?_getD, List.getElem?_map] at h1 ⊢
      rw [List.getElem?_eq_getElem hil] at h1 ⊢
      simp at h1 ⊢
      omega
    have HC := Lib.hid hC; have HCL := Lib.hid hCl; have HGET := Lib.hid hget
    clear hC hCl hget
    go_wp2_with fail
    refine HCN.out.mono ?_
    rintro e w2 ⟨rfl, rfl⟩
    go_wp2_with fail
    refine (Lens_ok a n c L C _ HR1.out HL.out hn HC.out (fun x hx => HCT.out x hx)).mono ?_
    rintro e w3 ⟨g, rfl, hrow, hg, hb3⟩
    have HR3 := Lib.hid (HR1.out.below hb3 (Nat.le_refl _))
    have HB3 := Lib.hid (HB1.out.trans (hb3.mono HB1.out.size))
    have hDl := lens_length C (by rw [HCL.out]; exact hn)
    have hDle := lens_le C (by rw [HCL.out]; exact hn)
    have hDi := lens_iff C (by rw [HCL.out]; exact hn)
    have hkr := kraft C (by rw [HCL.out]; exact hn)
    rw [HCL.out] at hDl hDi hkr
    have hsome := some_count C n (HCL.out)
    have HROW := Lib.hid hrow; have HDL := Lib.hid hDl; have HDLE := Lib.hid hDle; have HDI := Lib.hid hDi; have HKR := Lib.hid hkr; have HSM := Lib.hid hsome
    clear hrow hg hb3 hDl hDle hDi hkr hsome HCT HC
    generalize lens C = D at *
    have e3 : ((n : Int) != (n : Int)) = false := by simp
    go_wp2_with fail
    go_loopw [5, 6, 7] (fun v5 v6 v7 wr => ∃ k s m q : Nat, k ≤ n ∧ v7 = .int .i64 k ∧ v5 = .int .i64 s ∧ v6 = .int .i64 m ∧ Hid (s = someTo C k) ∧ Hid (m = mostTo D k) ∧ s ≤ k ∧ m ≤ 255 ∧ Hid (wr = w3.drewN q)) (fun _ _ v7 _ => n - (intOf v7).toNat)
    case atStart => exact ⟨0, 0, 0, 0, by omega, rfl, rfl, rfl, Lib.hid rfl, Lib.hid rfl, by omega, by omega, Lib.hid rfl⟩
    case round =>
      obtain ⟨k, s, m, q, hk, rfl, rfl, rfl, HS, HM, hsk, hm255, HW⟩ := hrel
      obtain rfl := HW.out
      by_cases hlt : k < n
      · have hkI : (k : Int) < (n : Int) := by omega
        have hk0 : (0 : Int) ≤ (k : Int) := by omega
        obtain ⟨x, rfl, _, hcx⟩ := HR3.out k (by rw [HL.out]; exact hlt)
        rw [HGET.out k hlt] at hcx
        have hcd := HROW.out.num0 k (by rw [HDL.out]; exact hlt)
        have hdle := HDLE.out k
        have hdi := HDI.out k hlt
        have hs1 := someTo_succ C k
        have hm1 : mostTo D (k + 1) = max (mostTo D k) (D.getD k 0) := rfl
        rw [← HS.out] at hs1
        rw [← HM.out] at hm1
        generalize C.getD k 0 = cc at *
        generalize D.getD k 0 = d at *
        have hcx' : (w3.drewN q).cell? (x.add k) = some (.int .i64 (cc : Nat)) := hcx
        have hcd' : (w3.drewN q).cell? ⟨g, k, none⟩ = some (.int .i64 (d : Nat)) := hcd
        have HS1 := Lib.hid hs1; have HM1 := Lib.hid hm1
        clear hcx hcd hs1 hm1
        obtain ⟨wq, hwq⟩ : ∃ wq, wq = w3.drewN q := ⟨_, rfl⟩
        rw [← hwq] at hcx' hcd'
        rw [← hwq]
        have HWQ := Lib.hid hwq; clear hwq
        by_cases hc : 0 < cc
        · have hd := hdi.2 hc
          rw [if_pos hc] at HS1
          have d1 : decide ((0 : Int) < (cc : Int)) = true := by rw [decide_eq_true_eq]; omega
          have d2 : decide ((0 : Int) < (d : Int)) = true := by rw [decide_eq_true_eq]; omega
          have d3 : decide ((255 : Int) < (d : Int)) = false := by rw [decide_eq_false_iff_not]; omega
          have d4 : decide (0 < cc) = true := decide_eq_true hc
          have d5 : decide (0 < d) = true := decide_eq_true hd
          clear hdi
          have hd9 : 0 < d := hd
          clear hc hd
          go_wp2_with fail
          go_quiet (fail)
          have hcd2 : (wq.drewN nq).cell? ⟨g, k, none⟩ = some (.int .i64 (d : Nat)) := hcd'
          have HWN : Hid (wq.drewN nq = w3.drewN (q + nq)) := Lib.hid (by rw [HWQ.out]; exact World.drewN_drewN _ _ _)
          clear hcd' hcx'
          generalize wq.drewN nq = w4 at *
          go_wp2_with fail
          go_roundw
          case rel => exact ⟨k + 1, s + 1, max m d, q + nq, by omega, by go_num, by go_num, val_int (by omega), Lib.hid HS1.out.symm, Lib.hid HM1.out.symm, by omega, by omega, HWN⟩
          case measure => simp [intOf]; omega
        · have hd : ¬ 0 < d := fun h => hc (hdi.1 h)
          rw [if_neg hc] at HS1
          have d1 : decide ((0 : Int) < (cc : Int)) = false := by rw [decide_eq_false_iff_not]; omega
          have d2 : decide ((0 : Int) < (d : Int)) = false := by rw [decide_eq_false_iff_not]; omega
          have d3 : decide ((255 : Int) < (d : Int)) = false := by rw [decide_eq_false_iff_not]; omega
          have d4 : decide (0 < cc) = false := decide_eq_false hc
          have d5 : decide (0 < d) = false := decide_eq_false hd
          clear hdi hc hd
          go_wp2_with fail
          go_quiet (fail)
          have hcd2 : (wq.drewN nq).cell? ⟨g, k, none⟩ = some (.int .i64 (d : Nat)) := hcd'
          have HWN : Hid (wq.drewN nq = w3.drewN (q + nq)) := Lib.hid (by rw [HWQ.out]; exact World.drewN_drewN _ _ _)
          clear hcd' hcx'
          generalize wq.drewN nq = w4 at *
          go_wp2_with fail
          go_roundw
          case rel => exact ⟨k + 1, s, max m d, q + nq, by omega, by go_num, rfl, val_int (by omega), Lib.hid HS1.out.symm, Lib.hid HM1.out.symm, by omega, by omega, HWN⟩
          case measure => simp [intOf]; omega
      · obtain rfl : k = n := by omega
        have hd : decide ((k : Int) < (k : Int)) = false := by simp
        have hmost := le_most D k HDL.out
        have hkr := fun h2 => HKR.out h2 m
        rw [← HM.out] at hmost
        rw [HSM.out, ← HS.out] at hkr
        have HMO := Lib.hid hmost; have HKR2 := Lib.hid hkr
        have HB4 := Lib.hid (bdrewN HB3.out q)
        have HROW4 : Hid (RowAt (w3.drewN q) g 0 3 (nvals .i64 D)) := HROW
        clear hmost hkr HSM HKR HW HROW HB3 HR3
        generalize w3.drewN q = w4 at *
        by_cases h2 : s < 2
        · have f1 : decide ((s : Int) < 2) = true := by rw [decide_eq_true_eq]; omega
          go_wp2_with fail
          go_ret
          exact ⟨rfl, HB4.out⟩
        · have f1 : decide ((s : Int) < 2) = false := by rw [decide_eq_false_iff_not]; omega
          by_cases h60 : 60 < m
          · have f2 : decide ((60 : Int) < (m : Int)) = true := by rw [decide_eq_true_eq]; omega
            go_wp2_with fail
            go_ret
            exact ⟨rfl, HB4.out⟩
          · have f2 : decide ((60 : Int) < (m : Int)) = false := by rw [decide_eq_false_iff_not]; omega
            have hfin := HKR2.out (by omega) HMO.out (by omega)
            have hpow : 2 ^ m ≤ 1152921504606846976 := Nat.le_trans (Nat.pow_le_pow_right (by decide) (by omega) : 2 ^ m ≤ 2 ^ 60) (by decide)
            have hsh0 : (1 : Int) * 2 ^ ((m : Int)).toNat = ((2 ^ m : Nat) : Int) := by rw [Int.toNat_natCast]; simp
            have hsh1 : (1 : Int) * 2 ^ m = ((2 ^ m : Nat) : Int) := by simp
            generalize hZ : 2 ^ m = Z at *
            have HZ := Lib.hid hZ; have HFIN := Lib.hid hfin; have HSH0 := Lib.hid hsh0; have HSH1 := Lib.hid hsh1
            clear hZ hfin hsh0 hsh1
            go_wp2_with fail
            go_loop [8, 9] (fun v8 v9 => ∃ j t : Nat, j ≤ k ∧ v9 = .int .i64 j ∧ v8 = .int .i64 t ∧ Hid (t = kraftTo D m j) ∧ t ≤ Z) (fun _ v9 => k - (intOf v9).toNat)
            case atStart => exact ⟨0, 0, by omega, rfl, rfl, Lib.hid rfl, Nat.zero_le _⟩
            case round =>
              obtain ⟨j, t, hj, rfl, rfl, HT, htZ⟩ := hrel
              by_cases hjk : j < k
              · have hjI : (j : Int) < (k : Int) := by omega
                have hcd := HROW4.out.num0 j (by rw [HDL.out]; exact hjk)
                have hks := kraftTo_succ D m j
                have hkm := kraftTo_mono D m (j + 1) (k - (j + 1))
                rw [show j + 1 + (k - (j + 1)) = k from by omega, HFIN.out] at hkm
                rw [hks, ← HT.out] at hkm
                rw [← HT.out] at hks
                have hdm := HMO.out j
                generalize D.getD j 0 = d at *
                by_cases hd : 0 < d
                · have d2 : decide ((0 : Int) < (d : Int)) = true := by rw [decide_eq_true_eq]; omega
                  have d5 : decide (0 < d) = true := decide_eq_true hd
                  rw [if_pos hd] at hks hkm
                  have hsh : (1 : Int) * 2 ^ ((m : Int) - (d : Int)).toNat = ((2 ^ (m - d) : Nat) : Int) := by
                    rw [show ((m : Int) - (d : Int)).toNat = m - d from by omega]; simp
                  have hsh2 : (2 : Int) ^ (m - d) = ((2 ^ (m - d) : Nat) : Int) := by simp
                  generalize (2 : Nat) ^ (m - d) = u at *
                  have HKS := Lib.hid hks; clear hks
                  go_wp2_with fail
                  go_round
                  case rel => exact ⟨j + 1, t + u, by omega, by go_num, by go_num, Lib.hid HKS.out.symm, hkm⟩
                  case measure => simp [intOf]; omega
                · have d2 : decide ((0 : Int) < (d : Int)) = false := by rw [decide_eq_false_iff_not]; omega
                  have d5 : decide (0 < d) = false := decide_eq_false hd
                  rw [if_neg hd, Nat.add_zero] at hks
                  have HKS := Lib.hid hks; clear hks hkm
                  go_wp2_with fail
                  go_round
                  case rel => exact ⟨j + 1, t, by omega, by go_num, rfl, Lib.hid HKS.out.symm, htZ⟩
                  case measure => simp [intOf]; omega
              · obtain rfl : j = k := by omega
                have hd2 : decide ((j : Int) < (j : Int)) = false := by simp
                have htz : t = Z := by have := HT.out; rw [this, HFIN.out]
                have g1 : ((t : Int) == (Z : Int)) = true := by rw [beq_iff_eq, htz]
                have g0 := HSH0.out; have g3 := HSH1.out
                have HTZ := Lib.hid htz; clear htz
                go_wp2_with fail
                go_ret
                exact ⟨rfl, HB4.out⟩
  · have hfalse : (decide (n ≤ 256) && !L.any CfCnt.p) = false := by
      by_cases hn : n ≤ 256
      · rw [decide_eq_true hn, Bool.true_and]
        cases hq : L.any CfCnt.p with
        | true => rfl
        | false => exact absurd ⟨hn, (any_counted L).1 hq⟩ hok
      · rw [decide_eq_false hn, Bool.false_and]
    rw [hfalse] at hcn
    have HCN := Lib.hid hcn
    clear hcn hok hfalse
    go_wp2_with fail
    refine HCN.out.mono ?_
    rintro e w2 ⟨rfl, rfl⟩
    go_wp2_with fail
    go_ret
    exact ⟨rfl, HB1.out⟩
end Go.Proofs.Ytenhblpegobbjaa
