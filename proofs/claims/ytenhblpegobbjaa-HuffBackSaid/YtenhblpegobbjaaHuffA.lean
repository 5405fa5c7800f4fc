/- Contract of huff.Signs. -/
import Derived.Test.YtenhblpegobbjaaChecked
import Derived.Test.YtenhblpegobbjaaPlainHuff5
import Derived.Test.YtenhblpegobbjaaConcatI
namespace Go.Proofs.Ytenhblpegobbjaa
open Go.RowKit
set_option linter.unusedVariables false
set_option linter.unusedSimpArgs false
namespace Huff
/-- lengths of which signs can be made -/
def Fits (L : List Int) : Prop := (∀ x ∈ L, 0 ≤ x ∧ x ≤ 24) ∧ wsum L ≤ 16777216
theorem mem_getD (L : List Int) (k : Nat) (h : k < L.length) : L.getD k 0 ∈ L := by
  rw [List.getD_eq_getElem?_getD, List.getElem?_eq_getElem h]; exact List.getElem_mem _
end Huff
open Huff
def SignsBad (B : Nat) (w : World) (e : Ending) (w' : World) : Prop := ∃ k : Int, e = .returned (.tuple #[.slice none 0 0, .iface 85 (.int .i64 k)]) ∧ Below B w w'
def SignsOk (L : List Int) (n : Nat) (w : World) (e : Ending) (w' : World) : Prop := ∃ g, e = .returned (.tuple #[.slice (some ⟨g, 0, none⟩) n n, .nilIface]) ∧ RowAt w' g 0 3 (ivals (codes L)) ∧ w.heap.size ≤ g ∧ Below w.heap.size w w'
theorem shl_wt (x : Int) (h0 : 0 < x) (h : x ≤ 24) : (1 : Int) * 2 ^ (24 - x).toNat = (wt x : Nat) := by
  unfold wt
  rw [if_pos h0, show (24 - x).toNat = 24 - x.toNat from by omega]
  simp
set_option maxRecDepth 100000 in
set_option maxHeartbeats 2000000 in
theorem Signs_ok (a : Option Addr) (n c : Nat) (L : List Int) (w : World) (hr : RdI w a L) (hl : L.length = n) (hn : n ≤ 256) (hf : Fits L) :
    Calls Try.prog 35 #[.slice a n c] w (SignsOk L n w) := by
  have HL := Lib.hid hl; clear hl
  have HR := Lib.hid hr; clear hr
  have HF := Lib.hid hf; clear hf
  have hnI : decide ((256 : Int) < (n : Int)) = false := by rw [decide_eq_false_iff_not]; omega
  go_enter Try.func35, Try.ntmps35
  go_wp2_with fail
  go_loop [4, 6, 18] (fun v4 v6 v18 => ∃ k t : Nat, k ≤ n ∧ v18 = .int .i64 k ∧ v4 = .int .i64 t ∧ Hid (t = wsum (L.take k))) (fun _ _ v18 => n - (intOf v18).toNat)
  case atStart => exact ⟨0, 0, by omega, rfl, rfl, Lib.hid rfl⟩
  case round =>
    obtain ⟨k, t, hk, rfl, rfl, HT⟩ := hrel
    by_cases hlt : k < n
    · have hkl : k < L.length := by rw [HL.out]; exact hlt
      obtain ⟨x, rfl, _, hc⟩ := HR.out k hkl
      have hx := HF.out.1 _ (mem_getD L k hkl)
      have hst := wsum_take L k hkl
      rw [← HT.out] at hst
      have hts : t ≤ 256 * 16777216 := by
        have := wsum_le (L.take k)
        rw [List.length_take] at this
        rw [HT.out]
        refine Nat.le_trans this (Nat.mul_le_mul_right _ (by omega))
      generalize L.getD k 0 = z at *
      have hkI : (k : Int) < (n : Int) := by omega
      have d1 : decide (z < 0) = false := by rw [decide_eq_false_iff_not]; omega
      have d2 : decide ((24 : Int) < z) = false := by rw [decide_eq_false_iff_not]; omega
      have HST := Lib.hid hst; clear hst
      by_cases hz : 0 < z
      · have d3 : decide (0 < z) = true := decide_eq_true hz
        have hsh := shl_wt z hz hx.2
        have hw := wt_le z
        go_wp2_with fail
        go_round
        case rel => exact ⟨k + 1, t + wt z, by omega, by go_num, by go_num, Lib.hid HST.out.symm⟩
        case measure => simp [intOf]; omega
      · have d3 : decide (0 < z) = false := decide_eq_false hz
        have hw : wt z = 0 := by unfold wt; rw [if_neg hz]
        rw [hw] at HST
        clear hw
        go_wp2_with fail
        go_round
        case rel => exact ⟨k + 1, t, by omega, by go_num, rfl, Lib.hid HST.out.symm⟩
        case measure => simp [intOf]; omega
    · obtain rfl : k = n := by omega
      have hd : decide ((k : Int) < (k : Int)) = false := by simp
      have ht : t ≤ 16777216 := by
        have h1 := HF.out.2
        have h2 := HT.out
        rw [List.take_of_length_le (by rw [HL.out]; omega)] at h2
        omega
      have d1 : decide ((16777216 : Int) < (t : Int)) = false := by rw [decide_eq_false_iff_not]; omega
      obtain ⟨i0, hi, hz0, hz1, hz2⟩ := info_parts infoI64
      go_wp2_with (with_reducible refine wpList_make0 _ rfl _ _ 34 rfl 3 i0 (.int .i64 0) Try.underlying34 hi hz0 hz1 rfl .i64 .i64 (k : Int) (k : Int) k rfl rfl rfl rfl (by rw [hz2]; omega) (by unfold maxLen; omega) ?_; intro w1 hrow hb hsz)
      obtain ⟨g, hg⟩ : ∃ g, g = w.heap.size := ⟨_, rfl⟩
      rw [← hg] at hrow
      rw [← hg]
      have HG := Lib.hid hg; clear hg
      have hrow1 : RowAt w1 g 0 3 (ivals (outAt L 1 0)) := by
        rw [outAt_first, HL.out]
        simpa [ivals] using hrow
      have HROW := Lib.hid hrow1; clear hrow hrow1
      have HB := Lib.hid hb; clear hb hsz
      go_loopw [8, 9] (fun v8 v9 wr => ∃ q : Nat, 1 ≤ q ∧ q ≤ 25 ∧ v9 = .int .i64 q ∧ v8 = .int .i64 (ends L (q - 1) : Nat) ∧ Hid (RowAt wr g 0 3 (ivals (outAt L q 0))) ∧ Hid (Below w.heap.size w wr)) (fun _ v9 _ => 25 - (intOf v9).toNat)
      case atStart => exact ⟨1, by omega, by omega, rfl, rfl, HROW, HB⟩
      case round =>
        clear HROW HB
        obtain ⟨q, hq, hq2, rfl, rfl, HROW, HB⟩ := hrel
        by_cases hlt : q < 25
        · have hqI : decide ((q : Int) ≤ 24) = true := by rw [decide_eq_true_eq]; omega
          have hel := ends_le L (by have := HF.out.2; omega) (q - 1) (by omega)
          have hpl : 2 ^ (q - 1) ≤ 2 ^ 23 := Nat.pow_le_pow_right (by decide) (by omega)
          have hne := nextAt_zero L q
          have hel2 : ends L (q - 1) ≤ 8388608 := Nat.le_trans hel hpl
          have hel3 : ends L q ≤ 16777216 := Nat.le_trans (ends_le L (by have := HF.out.2; omega) q (by omega)) (Nat.pow_le_pow_right (by decide) (by omega) : 2 ^ q ≤ 2 ^ 24)
          clear hel hpl
          generalize ends L (q - 1) = t0 at *
          have HNE := Lib.hid hne; clear hne
          go_wp2_with fail
          go_loopw [8, 10, 11, 51] (fun v8 _ _ v51 w2 => ∃ i m : Nat, i ≤ k ∧ v51 = .int .i64 i ∧ v8 = .int .i64 (m : Nat) ∧ Hid (m = nextAt L q i) ∧ Hid (RowAt w2 g 0 3 (ivals (outAt L q i))) ∧ Hid (Below w.heap.size w w2)) (fun _ _ _ v51 _ => k - (intOf v51).toNat)
          case atStart => exact ⟨0, t0 * 2, by omega, rfl, by go_num, Lib.hid (by rw [HNE.out]; omega), HROW, HB⟩
          case round =>
            clear HROW HB HNE
            obtain ⟨i, m, hi, rfl, rfl, HM, HROW, HB⟩ := hrel
            by_cases hik : i < k
            · have hil : i < L.length := by rw [HL.out]; exact hik
              obtain ⟨x, rfl, hxl, hc0⟩ := HR.out i hil
              have hc : wr.cell? (x.add i) = some (.int .i64 (L.getD i 0)) := by
                rw [World.cell?_of_block (w := w) (w' := wr) (a := x.add i)]
                · exact hc0
                · rw [Addr.add_block]; exact HB.out.block _ hxl
              have hm : m ≤ 16777216 := by have := nextAt_le L q i (by omega); have := HM.out; omega
              have hiI : (i : Int) < (k : Int) := by omega
              by_cases hz : L.getD i 0 = (q : Int)
              · have hn1 := nextAt_hit L q i hil hz
                have ho1 := outAt_hit L q i hil (by omega) hz
                rw [← HM.out] at hn1 ho1
                have d3 : (L.getD i 0 == (q : Int)) = true := by rw [beq_iff_eq]; exact hz
                have hlen : i < (ivals (outAt L q i)).length := by rw [ivals_length, outAt_length]; exact hil
                have hcg := HROW.out.cell0 i hlen
                have hfg := HROW.out.frozen0 i hlen
                have hset := HROW.out.set0 i hlen (.int .i64 (m : Nat))
                rw [ivals_set, ← ho1] at hset
                have HS := Lib.hid hset; have HN1 := Lib.hid hn1
                have HB2 := Lib.hid (HB.out.setCell (p := ⟨g, i, none⟩) (by rw [HG.out]; exact Nat.le_refl _) (.int .i64 (m : Nat)))
                clear hset
                generalize (ivals (outAt L q i))[i] = old at *
                clear hn1 ho1 hz hlen hc0 HROW HB
                generalize L.getD i 0 = z at *
                go_wp2_with fail
                go_roundw
                case rel => exact ⟨i + 1, m + 1, by omega, by go_num, by go_num, Lib.hid HN1.out.symm, HS, HB2⟩
                case measure => simp [intOf]; omega
              · have hn1 := nextAt_miss L q i hil hz
                have ho1 := outAt_miss L q i hz
                have d3 : (L.getD i 0 == (q : Int)) = false := by rw [beq_eq_false_iff_ne]; exact hz
                have HS : Hid (RowAt wr g 0 3 (ivals (outAt L q (i + 1)))) := by rw [ho1]; exact HROW
                have HN1 : Hid (m = nextAt L q (i + 1)) := by rw [hn1]; exact HM
                clear hn1 ho1 hz hc0 HROW
                generalize L.getD i 0 = z at *
                go_wp2_with fail
                go_roundw
                case rel => exact ⟨i + 1, m, by omega, by go_num, rfl, HN1, HS, HB⟩
                case measure => simp [intOf]; omega
            · obtain rfl : i = k := by omega
              have hd : decide ((i : Int) < (i : Int)) = false := by simp
              have hne := nextAt_end L q (by omega)
              rw [HL.out] at hne
              have HN : Hid (m = ends L q) := by rw [← hne]; exact HM
              have HRW : Hid (RowAt wr g 0 3 (ivals (outAt L (q + 1) 0))) := by rw [outAt_next, HL.out]; exact HROW
              clear hne HROW HM
              go_wp2_with fail
              go_roundw
              case rel => exact ⟨q + 1, by omega, by omega, by go_num, by rw [Nat.add_sub_cancel, ← HN.out], HRW, HB⟩
              case measure => simp [intOf]; omega
        · obtain rfl : q = 25 := by omega
          have HC : Hid (RowAt wr g 0 3 (ivals (codes L))) := by rw [← outAt_last L (fun x hx => (HF.out.1 x hx).2)]; exact HROW
          go_wp2_with fail
          go_ret2
          exact ⟨g, rfl, HC.out, by rw [HG.out]; exact Nat.le_refl _, HB.out⟩
set_option maxRecDepth 100000 in
set_option maxHeartbeats 2000000 in
theorem Signs_bad (a : Option Addr) (n c : Nat) (L : List Int) (w : World) (hr : RdI w a L) (hl : L.length = n) (hn : n ≤ 256) (hf : ¬ Fits L) :
    Calls Try.prog 35 #[.slice a n c] w (SignsBad w.heap.size w) := by
  have HL := Lib.hid hl; clear hl
  have HR := Lib.hid hr; clear hr
  have HF := Lib.hid hf; clear hf
  have hnI : decide ((256 : Int) < (n : Int)) = false := by rw [decide_eq_false_iff_not]; omega
  go_enter Try.func35, Try.ntmps35
  go_wp2_with fail
  go_loop [4, 6, 18] (fun v4 v6 v18 => ∃ k t : Nat, k ≤ n ∧ v18 = .int .i64 k ∧ v4 = .int .i64 t ∧ Hid (t = wsum (L.take k)) ∧ Hid (∀ x ∈ L.take k, 0 ≤ x ∧ x ≤ 24)) (fun _ _ v18 => n - (intOf v18).toNat)
  case atStart => exact ⟨0, 0, by omega, rfl, rfl, Lib.hid rfl, Lib.hid (by simp)⟩
  case round =>
    obtain ⟨k, t, hk, rfl, rfl, HT, HA⟩ := hrel
    by_cases hlt : k < n
    · have hkl : k < L.length := by rw [HL.out]; exact hlt
      obtain ⟨x, rfl, _, hc⟩ := HR.out k hkl
      have hst := wsum_take L k hkl
      rw [← HT.out] at hst
      have hts : t ≤ 256 * 16777216 := by
        have := wsum_le (L.take k)
        rw [List.length_take] at this
        rw [HT.out]
        refine Nat.le_trans this (Nat.mul_le_mul_right _ (by omega))
      have hall : 0 ≤ L.getD k 0 ∧ L.getD k 0 ≤ 24 → ∀ x ∈ L.take (k + 1), 0 ≤ x ∧ x ≤ 24 := by
        intro hz x hx
        rw [List.take_succ_eq_append_getElem hkl, List.mem_append, List.mem_singleton] at hx
        rcases hx with hx | hx
        · exact HA.out x hx
        · rw [hx]
          rw [List.getD_eq_getElem?_getD, List.getElem?_eq_getElem hkl] at hz
          exact hz
      have HALL := Lib.hid hall; clear hall
      generalize L.getD k 0 = z at *
      have hkI : (k : Int) < (n : Int) := by omega
      have HST := Lib.hid hst; clear hst
      by_cases h1 : z < 0
      · have d1 : decide (z < 0) = true := decide_eq_true h1
        go_wp2_with fail
        go_ret2
        exact ⟨2, rfl, Below.refl _ _⟩
      · have d1 : decide (z < 0) = false := decide_eq_false h1
        by_cases h2 : 24 < z
        · have d2 : decide ((24 : Int) < z) = true := decide_eq_true h2
          go_wp2_with fail
          go_ret2
          exact ⟨2, rfl, Below.refl _ _⟩
        · have d2 : decide ((24 : Int) < z) = false := decide_eq_false h2
          by_cases hz : 0 < z
          · have d3 : decide (0 < z) = true := decide_eq_true hz
            have hsh := shl_wt z hz (by omega)
            have hw := wt_le z
            go_wp2_with fail
            go_round
            case rel => exact ⟨k + 1, t + wt z, by omega, by go_num, by go_num, Lib.hid HST.out.symm, Lib.hid (HALL.out ⟨by omega, by omega⟩)⟩
            case measure => simp [intOf]; omega
          · have d3 : decide (0 < z) = false := decide_eq_false hz
            have hw : wt z = 0 := by unfold wt; rw [if_neg hz]
            rw [hw] at HST
            clear hw
            go_wp2_with fail
            go_round
            case rel => exact ⟨k + 1, t, by omega, by go_num, rfl, Lib.hid HST.out.symm, Lib.hid (HALL.out ⟨by omega, by omega⟩)⟩
            case measure => simp [intOf]; omega
    · obtain rfl : k = n := by omega
      have hd : decide ((k : Int) < (k : Int)) = false := by simp
      have ht : 16777216 < t := by
        have h1 := HF.out
        have h2 := HT.out
        have h3 := HA.out
        rw [List.take_of_length_le (by rw [HL.out]; omega)] at h2 h3
        rcases Nat.lt_or_ge 16777216 t with h | h
        · exact h
        · exact absurd ⟨h3, by omega⟩ h1
      have d1 : decide ((16777216 : Int) < (t : Int)) = true := by rw [decide_eq_true_eq]; omega
      go_wp2_with fail
      go_ret2
      exact ⟨12, rfl, Below.refl _ _⟩
end Go.Proofs.Ytenhblpegobbjaa
