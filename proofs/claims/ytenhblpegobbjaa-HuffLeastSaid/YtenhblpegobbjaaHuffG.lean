/- The law HuffLeast. -/
import Derived.Test.YtenhblpegobbjaaHuffF
namespace Go.Proofs.Ytenhblpegobbjaa
open Go.RowKit
set_option linter.unusedVariables false
set_option linter.unusedSimpArgs false
open Huff
namespace Huff
def costTo (C D : List Nat) (k : Nat) : Nat := ((List.range k).map fun i => C.getD i 0 * D.getD i 0).sum
theorem costTo_succ (C D : List Nat) (k : Nat) : costTo C D (k + 1) = costTo C D k + C.getD k 0 * D.getD k 0 := by
  unfold costTo
  rw [List.range_succ, List.map_append, List.sum_append]
  simp
theorem costTo_le (C D : List Nat) (A B : Nat) (h1 : ∀ i, C.getD i 0 ≤ A) (h2 : ∀ i, D.getD i 0 ≤ B) : ∀ k, costTo C D k ≤ k * (A * B) := by
  intro k
  induction k with
  | zero => simp [costTo]
  | succ k ih =>
    rw [costTo_succ, Nat.succ_mul]
    exact Nat.add_le_add ih (Nat.mul_le_mul (h1 k) (h2 k))
theorem wsum_kraft (L : List Int) (h : ∀ x ∈ L, 0 ≤ x) : ∀ k, k ≤ L.length → wsum (L.take k) = kraftTo (L.map Int.toNat) 24 k := by
  intro k
  induction k with
  | zero => intro _; simp [wsum, kraftTo]
  | succ k ih =>
    intro hk
    rw [wsum_take L k (by omega), kraftTo_succ, ih (by omega)]
    have h1 := h _ (mem_getD L k (by omega))
    have h2 : (L.map Int.toNat).getD k 0 = (L.getD k 0).toNat := by
      simp only [List.getD_eq_getElem?_getD, List.getElem?_map]
      rw [List.getElem?_eq_getElem (by omega)]
      rfl
    rw [h2]
    congr 1
    unfold wt
    by_cases h0 : 0 < L.getD k 0
    · rw [if_pos h0, if_pos (by omega)]
    · rw [if_neg h0, if_neg (by omega)]
end Huff
def RdN (w : World) (a : Option Addr) (n : Nat) (C : List Nat) : Prop := ∀ i, i < n → ∃ x : Addr, a = some x ∧ x.block < w.heap.size ∧ w.cell? (x.add i) = some (.int .i64 (C.getD i 0 : Nat))
theorem RdI.rdN {w : World} {a : Option Addr} {n : Nat} {L : List Int} (h : RdI w a L) (hl : L.length = n) (hp : ∀ x ∈ L, 0 ≤ x) : RdN w a n (L.map Int.toNat) := by
  intro i hi
  obtain ⟨x, h1, h2, h3⟩ := h i (by omega)
  refine ⟨x, h1, h2, ?_⟩
  rw [h3]
  have h4 := hp _ (mem_getD L i (by omega))
  have h5 : (L.map Int.toNat).getD i 0 = (L.getD i 0).toNat := by
    simp only [List.getD_eq_getElem?_getD, List.getElem?_map]
    rw [List.getElem?_eq_getElem (by omega)]
    rfl
  rw [h5]
  congr 2
  omega
theorem RowAt.rdNat {w : World} {g n : Nat} {D : List Nat} (h : RowAt w g 0 3 (nvals .i64 D)) (hl : D.length = n) : RdN w (some ⟨g, 0, none⟩) n D := by
  intro i hi
  refine ⟨_, rfl, h.lt, ?_⟩
  rw [add_lit]
  exact h.num i (by omega)
theorem RdN.below {w w' : World} {a : Option Addr} {n : Nat} {L : List Nat} (h : RdN w a n L) {B : Nat} (hb : Below B w w') (hB : w.heap.size ≤ B) : RdN w' a n L := by
  intro i hi
  obtain ⟨x, h1, h2, h3⟩ := h i hi
  refine ⟨x, h1, Nat.lt_of_lt_of_le h2 hb.size, ?_⟩
  rw [World.cell?_of_block (w := w) (w' := w') (a := x.add i)]
  · exact h3
  · rw [Addr.add_block]; exact hb.block _ (Nat.lt_of_lt_of_le h2 hB)
set_option maxRecDepth 100000 in
set_option maxHeartbeats 2000000 in
theorem Cost_any (a b : Option Addr) (n c d : Nat) (C D : List Nat) (w : World) (hC : RdN w a n C) (hD : RdN w b n D) (hn : n ≤ 256) (h1 : ∀ i, C.getD i 0 ≤ 1099511627776) (h2 : ∀ i, D.getD i 0 ≤ 255) :
    Calls Try.prog 38 #[.slice a n c, .slice b n d] w fun e w' => e = .returned (.tuple #[.int .i64 (costTo C D n : Nat), .nilIface]) ∧ ∃ k, w' = w.drewN k := by
  have hle := fun k => costTo_le C D _ _ h1 h2 k
  have HLE := Lib.hid hle; have HC := Lib.hid hC; have HD := Lib.hid hD; have H1 := Lib.hid h1; have H2 := Lib.hid h2
  clear hle hC hD h1 h2
  have e3 : ((n : Int) != (n : Int)) = false := by simp
  go_enter Try.func38, Try.ntmps38
  go_wp2_with fail
  go_loopw [6, 7, 16] (fun v6 v7 v16 wr => ∃ k t q : Nat, k ≤ n ∧ v16 = .int .i64 k ∧ v6 = .int .i64 t ∧ Hid (t = costTo C D k) ∧ Hid (wr = w.drewN q)) (fun _ _ v16 _ => n - (intOf v16).toNat)
  case atStart => exact ⟨0, 0, 0, by omega, rfl, rfl, Lib.hid rfl, Lib.hid rfl⟩
  case round =>
    obtain ⟨k, t, q, hk, rfl, rfl, HT, HW⟩ := hrel
    obtain rfl := HW.out
    by_cases hlt : k < n
    · have hkI : (k : Int) < (n : Int) := by omega
      have hk0 : (0 : Int) ≤ (k : Int) := by omega
      obtain ⟨x, rfl, _, hx⟩ := HC.out k hlt
      obtain ⟨y, rfl, _, hy⟩ := HD.out k hlt
      have hs := costTo_succ C D k
      have hle := HLE.out (k + 1)
      rw [hs, ← HT.out] at hle
      rw [← HT.out] at hs
      have hc := H1.out k
      have hd := H2.out k
      generalize C.getD k 0 = cc at *
      generalize D.getD k 0 = dd at *
      have hx' : (w.drewN q).cell? (x.add k) = some (.int .i64 (cc : Nat)) := hx
      have hy' : (w.drewN q).cell? (y.add k) = some (.int .i64 (dd : Nat)) := hy
      have hmul : (cc : Int) * (dd : Int) = ((cc * dd : Nat) : Int) := by simp
      have hle2 : t + cc * dd ≤ 256 * (1099511627776 * 255) := Nat.le_trans hle (Nat.mul_le_mul_right _ (by omega))
      clear hx hy hle
      generalize cc * dd = p at *
      have hsum : IntKind.i64.wrap ((t : Int) + (p : Int)) = ((t + p : Nat) : Int) := by rw [IntKind.wrap_i64]; omega
      have hpw : IntKind.i64.wrap (p : Int) = (p : Int) := by rw [IntKind.wrap_i64]; omega
      have HS := Lib.hid hs; clear hs
      obtain ⟨wq, hwq⟩ : ∃ wq, wq = w.drewN q := ⟨_, rfl⟩
      rw [← hwq] at hx' hy'
      rw [← hwq]
      have HWQ := Lib.hid hwq; clear hwq
      go_wp2_with fail
      go_quiet (fail)
      have HWN : Hid (wq.drewN nq = w.drewN (q + nq)) := Lib.hid (by rw [HWQ.out]; exact World.drewN_drewN _ _ _)
      clear hx' hy'
      generalize wq.drewN nq = w4 at *
      go_wp2_with fail
      go_roundw
      case rel =>
        exact ⟨k + 1, t + p, q + nq, by omega, by go_num, by first | rfl | exact val_int hsum, Lib.hid HS.out.symm, HWN⟩
      case measure => simp [intOf]; omega
    · obtain rfl : k = n := by omega
      have hd : decide ((k : Int) < (k : Int)) = false := by simp
      obtain rfl := HT.out
      go_wp2_with fail
      go_ret2
      exact ⟨rfl, q, rfl⟩
set_option maxRecDepth 100000 in
set_option maxHeartbeats 2000000 in
theorem HuffLeast_walk (w : World) (a : Option Addr) (n c : Nat) (zs : List Int) (b : Option Addr) (m d : Nat) (ys : List Int) (hz : IsInts .i64 w a n c zs) (hy : IsInts .i64 w b m d ys) :
    Calls Try.prog 9 #[.slice a n c, .slice b m d] w fun e w' => e = .returned (.bool true) ∧ Below w.heap.size w w' := by
  obtain ⟨L, hL⟩ : ∃ L, L = zs.take n := ⟨_, rfl⟩
  obtain ⟨M, hM⟩ : ∃ M, M = ys.take m := ⟨_, rfl⟩
  have hr := hz.rd
  have hl := hz.take_len
  have hr2 := hy.rd
  have hl2 := hy.take_len
  have hn9 : n ≤ 140737488351232 := by have := hz.len; omega
  rw [← hL] at hr hl
  rw [← hM] at hr2 hl2
  have HR := Lib.hid hr; have HL := Lib.hid hl; have HS := Lib.hid hr2; have HML := Lib.hid hl2
  clear hr hl hL hz hr2 hl2 hM hy
  go_enter Try.func9, Try.ntmps9
  go_wp2_with fail
  refine (coded_any _).mono ?_
  rintro e w1 ⟨rfl, hb1⟩
  have HB1 := Lib.hid hb1
  have HR1 := Lib.hid (HR.out.below hb1 (Nat.le_refl _))
  have HS1 := Lib.hid (HS.out.below hb1 (Nat.le_refl _))
  clear hb1 HR HS
  have hcn := counted_any a n c L w1 HR1.out HL.out hn9
  by_cases hok : n ≤ 256 ∧ Counted L
  · obtain ⟨hn, hcnt⟩ := hok
    rw [decide_eq_true hn, (any_counted L).2 hcnt] at hcn
    have HCN := Lib.hid hcn; have HCT := Lib.hid hcnt
    clear hcn hcnt
    go_wp2_with fail
    refine HCN.out.mono ?_
    rintro e w2 ⟨rfl, rfl⟩
    by_cases hnm : n = m
    · obtain rfl := hnm
      have e3 : ((n : Int) != (n : Int)) = false := by simp
      by_cases hf : Fits M
      · have HF := Lib.hid hf; clear hf
        go_wp2_with fail
        refine (Signs_ok b n d M _ HS1.out HML.out hn HF.out).mono ?_
        rintro e w3 ⟨g0, rfl, _, _, hb3⟩
        have HR3 := Lib.hid (HR1.out.below hb3 (Nat.le_refl _))
        have HRN := Lib.hid ((HR1.out.below hb3 (Nat.le_refl _)).rdN HL.out (fun x hx => (HCT.out x hx).1))
        have HSN := Lib.hid ((HS1.out.below hb3 (Nat.le_refl _)).rdN HML.out (fun x hx => (HF.out.1 x hx).1))
        have HB3 := Lib.hid (HB1.out.trans (hb3.mono HB1.out.size))
        clear hb3 HR1 HS1 HB1
        obtain ⟨C, hC⟩ : ∃ C, C = L.map Int.toNat := ⟨_, rfl⟩
        obtain ⟨D, hD⟩ : ∃ D, D = M.map Int.toNat := ⟨_, rfl⟩
        rw [← hC] at HRN
        rw [← hD] at HSN
        have HC := Lib.hid hC; have HD := Lib.hid hD
        clear hC hD
        have hCb : ∀ i, C.getD i 0 ≤ 1099511627776 := by
          intro i
          rw [HC.out]
          simp only [List.getD_eq_getElem?_getD, List.getElem?_map]
          rcases Nat.lt_or_ge i L.length with h | h
          · rw [List.getElem?_eq_getElem h]
            have := HCT.out _ (List.getElem_mem h)
            simp
            omega
          · rw [List.getElem?_eq_none h]; simp
        have hDb : ∀ i, D.getD i 0 ≤ 24 := by
          intro i
          rw [HD.out]
          simp only [List.getD_eq_getElem?_getD, List.getElem?_map]
          rcases Nat.lt_or_ge i M.length with h | h
          · rw [List.getElem?_eq_getElem h]
            have := HF.out.1 _ (List.getElem_mem h)
            simp
            omega
          · rw [List.getElem?_eq_none h]; simp
        have HCB := Lib.hid hCb; have HDB := Lib.hid hDb
        clear hCb hDb
        go_wp2_with fail
        go_loop [7, 33] (fun v7 v33 => ∃ k : Nat, k ≤ n ∧ v7 = .int .i64 k ∧ Hid (∀ i, i < k → 0 < C.getD i 0 → 0 < D.getD i 0)) (fun v7 _ => n - (intOf v7).toNat)
        case atStart => exact ⟨0, by omega, rfl, Lib.hid (fun i hi => by omega)⟩
        case round =>
          obtain ⟨k, hk, rfl, HP⟩ := hrel
          by_cases hlt : k < n
          · have hkI : (k : Int) < (n : Int) := by omega
            obtain ⟨x, rfl, _, hx⟩ := HRN.out k hlt
            obtain ⟨y, rfl, _, hy⟩ := HSN.out k hlt
            have hstep : (0 < C.getD k 0 → 0 < D.getD k 0) → ∀ i, i < k + 1 → 0 < C.getD i 0 → 0 < D.getD i 0 := by
              intro h i hi h2
              rcases Nat.lt_or_ge i k with h3 | h3
              · exact HP.out i h3 h2
              · obtain rfl : i = k := by omega
                exact h h2
            have HST := Lib.hid hstep; clear hstep
            generalize C.getD k 0 = cc at *
            generalize D.getD k 0 = dd at *
            by_cases hc : 0 < cc
            · have d1 : decide ((0 : Int) < (cc : Int)) = true := by rw [decide_eq_true_eq]; omega
              have d2 : decide (0 < cc) = true := decide_eq_true hc
              by_cases hd : dd = 0
              · have d3 : ((dd : Int) == 0) = true := by rw [beq_iff_eq]; omega
                have HDD := Lib.hid hd; clear hd
                go_wp2_with fail
                go_ret
                exact ⟨rfl, HB3.out⟩
              · have d3 : ((dd : Int) == 0) = false := by rw [beq_eq_false_iff_ne]; omega
                go_wp2_with fail
                go_round
                case rel => exact ⟨k + 1, by omega, by go_num, Lib.hid (HST.out (fun _ => by omega))⟩
                case measure => simp [intOf]; omega
            · have d1 : decide ((0 : Int) < (cc : Int)) = false := by rw [decide_eq_false_iff_not]; omega
              have d2 : decide (0 < cc) = false := decide_eq_false hc
              go_wp2_with fail
              go_round
              case rel => exact ⟨k + 1, by omega, by go_num, Lib.hid (HST.out (fun h => absurd h hc))⟩
              case measure => simp [intOf]; omega
          · obtain rfl : k = n := by omega
            have hd : decide ((k : Int) < (k : Int)) = false := by simp
            have hlen : C.length = k := by rw [HC.out, List.length_map]; exact HL.out
            have hlenD : M.length = k := HML.out
            have hks : kraftTo D 24 k ≤ 2 ^ 24 := by
              have := wsum_kraft M (fun x hx => (HF.out.1 x hx).1) k (by omega)
              rw [List.take_of_length_le (by omega)] at this
              rw [HD.out, ← this]
              exact HF.out.2
            have hle := least C D (by omega) (fun i hi => HP.out i (by omega)) HDB.out (by rw [hlen]; exact hks)
            unfold cost at hle
            rw [hlen] at hle
            change costTo C (lens C) k ≤ costTo C D k at hle
            have hdl := lens_length C (by omega)
            rw [hlen] at hdl
            have hlle := lens_le C (by omega)
            have hb1 := costTo_le C D _ _ HCB.out HDB.out k
            have hb2 : k * (1099511627776 * 24) ≤ 256 * (1099511627776 * 24) := Nat.mul_le_mul_right _ hn
            have HLE := Lib.hid hle; have HDL := Lib.hid hdl; have HLL := Lib.hid hlle
            have HBD := Lib.hid (Nat.le_trans hb1 hb2)
            clear hlen hlenD hks hle hdl hlle hb1 hb2
            go_wp2_with fail
            refine (Lens_ok a k c L C _ HR3.out HL.out hn HC.out (fun x hx => HCT.out x hx)).mono ?_
            rintro e w4 ⟨g, rfl, hrow, hg, hb4⟩
            have HRN4 := Lib.hid (HRN.out.below hb4 (Nat.le_refl _))
            have HSN4 := Lib.hid (HSN.out.below hb4 (Nat.le_refl _))
            have HB4 := Lib.hid (HB3.out.trans (hb4.mono HB3.out.size))
            have HLN := Lib.hid (hrow.rdNat HDL.out)
            clear hrow hg hb4 HRN HSN HB3
            have hc1 := fun d => Cost_any a (some ⟨g, 0, none⟩) k c d C (lens C) w4 HRN4.out HLN.out hn HCB.out HLL.out
            have hc2 := fun q => Cost_any a b k c d C D (w4.drewN q) HRN4.out HSN4.out hn HCB.out (fun i => Nat.le_trans (HDB.out i) (by decide))
            have hle := HLE.out
            have hbd := HBD.out
            generalize costTo C (lens C) k = ca at *
            generalize costTo C D k = cb at *
            have HC1 := Lib.hid hc1; have HC2 := Lib.hid hc2
            clear hc1 hc2
            have f1 : decide ((ca : Int) ≤ (cb : Int)) = true := by rw [decide_eq_true_eq]; omega
            have f2 : decide (ca ≤ cb) = true := decide_eq_true hle
            go_wp2_with fail
            refine (HC1.out _).mono ?_
            rintro e w5 ⟨rfl, q, rfl⟩
            go_wp2_with fail
            refine (HC2.out _).mono ?_
            rintro e w5 ⟨rfl, q2, rfl⟩
            go_wp2_with fail
            go_ret
            exact ⟨rfl, bdrewN HB4.out _⟩
      · have HF := Lib.hid hf; clear hf
        go_wp2_with fail
        refine (Signs_bad b n d M _ HS1.out HML.out hn HF.out).mono ?_
        rintro e w3 ⟨k, rfl, hb3⟩
        have HB3 := Lib.hid (HB1.out.trans (hb3.mono HB1.out.size))
        clear hb3
        go_wp2_with fail
        go_ret
        exact ⟨rfl, HB3.out⟩
    · have e3 : ((n : Int) != (m : Int)) = true := by rw [bne_iff_ne]; omega
      have HNM := Lib.hid hnm; clear hnm
      go_wp2_with fail
      go_ret
      exact ⟨rfl, HB1.out⟩
  · have hfalse : (decide (n ≤ 256) && !L.any CfCnt.p) = false := by
      by_cases hn : n ≤ 256
      · rw [decide_eq_true hn, Bool.true_and]
        cases hq : L.any CfCnt.p with
        | true => rfl
        | false => exact absurd ⟨hn, (any_counted L).1 hq⟩ hok
      · rw [decide_eq_false hn, Bool.false_and]
    rw [hfalse] at hcn
    have HCN := Lib.hid hcn
    clear hcn hok hfalse
    go_wp2_with fail
    refine HCN.out.mono ?_
    rintro e w2 ⟨rfl, rfl⟩
    go_wp2_with fail
    go_ret
    exact ⟨rfl, HB1.out⟩
end Go.Proofs.Ytenhblpegobbjaa
