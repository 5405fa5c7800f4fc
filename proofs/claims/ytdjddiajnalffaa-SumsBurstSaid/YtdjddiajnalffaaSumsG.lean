/- The walk of the law SumsBurst. -/
import Derived.Test.YtdjddiajnalffaaSumsE
import Derived.Test.YtdjddiajnalffaaPlainSums3
namespace Go.Proofs.Ytdjddiajnalffaa
open Go.RowKit
set_option linter.unusedVariables false
set_option linter.unusedSimpArgs false
theorem bit_cast (n k : Nat) : ((n : Int) / 2 ^ k) = ((n / 2 ^ k : Nat) : Int) := by simp
set_option maxRecDepth 100000 in
set_option maxHeartbeats 1000000 in
theorem keepTurned_any (s : ByteArray) (a : Int) (bt : Nat) (w : World) (hs : s.size ≤ 200) (h0 : 0 < s.size) (hbt : bt < 4294967296) :
    Calls Try.prog 19 #[.string s, .int .i64 a, .int .u32 bt] w fun e w' =>
      ∃ n, n ≤ 32 ∧ pickN a (8 * s.size) + n ≤ 8 * s.size ∧ e = .returned (.string (bstr (flipTo s.data.toList (pickN a (8 * s.size)) bt n))) ∧ Below w.heap.size w w' := by
  have hlen : s.data.toList.length = s.size := data_length s
  go_enter Try.func19, Try.ntmps19
  have hne : s.toList.isEmpty = false := by
    rw [ByteArray.toList_eq]
    cases hl : s.data.toList with
    | nil => rw [hl] at hlen; simp at hlen; omega
    | cons _ _ => rfl
  go_wp2_with (with_reducible refine wpList_bytes _ rfl _ _ _ _ rfl Try.underlying9 Try.underlying79 Try.underlying5 s rfl ?_; intro w1 cap hcap hrow hb hsz)
  refine (pick_at a (8 * (s.size : Int)) (8 * s.size) _ (by omega) (by omega) (by omega)).mono ?_
  rintro e w2 ⟨rfl, rfl⟩
  have hp := pickN_lt a (8 * s.size) (by omega)
  generalize hPP : pickN a (8 * s.size) = p at *
  have HPP := Lib.hid hPP; clear hPP
  have hfl := flipTo_length s.data.toList p bt
  have hfs : ∀ i, flipTo s.data.toList p bt (i + 1) = if bt.testBit i then turnBit (flipTo s.data.toList p bt i) (p + i) else flipTo s.data.toList p bt i := fun i => rfl
  have hf0 : flipTo s.data.toList p bt 0 = s.data.toList := rfl
  rw [← hf0] at hrow
  have HFS := Lib.hid hfs; clear hfs
  generalize hB : w.heap.size = B at *
  have HB := Lib.hid hB; clear hB
  generalize hFL : flipTo s.data.toList p bt = fl at *
  have HFL := Lib.hid hFL; clear hFL
  clear hf0
  go_wp2_with fail
  go_loopw [8] (fun i wr => ∃ k : Nat, k ≤ 32 ∧ p + k ≤ 8 * s.size ∧ i = .int .i64 k ∧ RowAt wr B 0 5 (bvals (fl k)) ∧ Below B w wr) (fun i _ => 32 - (intOf i).toNat)
  case atStart => exact ⟨0, by omega, by omega, rfl, hrow, hb⟩
  case round =>
    clear hrow hb
    obtain ⟨k, hk, hkp, rfl, hrow, hb⟩ := hrel
    have hst := HFS.out k
    have hfk := hfl k
    have hfk1 := hfl (k + 1)
    have hbit : bits .and .u32 ((bt : Int) / 2 ^ k) 1 = ((bt / 2 ^ k % 2 : Nat) : Int) := top_form bt k hbt
    have hq : (p : Int) + (k : Int) = ((p + k : Nat) : Int) := by simp
    generalize p + k = q at *
    by_cases h32 : k < 32
    · by_cases h8 : q < 8 * s.size
      · have h8' : (q : Int) < 8 * (s.size : Int) := by omega
        have hx2 := Nat.toNat_testBit bt k
        rw [← hx2] at hbit
        cases hb2 : bt.testBit k
        · rw [hb2] at hbit hst
          simp only [Bool.toNat_false] at hbit
          simp only [Bool.false_eq_true, if_false] at hst
          go_wp2_with fail
          go_roundw
          case rel => exact ⟨k + 1, by omega, by omega, by go_num, by rw [hst]; exact hrow, hb⟩
          case measure => simp [intOf]; omega
        · rw [hb2] at hbit hst
          simp only [Bool.toNat_true] at hbit
          simp only [if_true, turnBit] at hst
          have hj : (q : Int) / 8 = ((q / 8 : Nat) : Int) := by simp
          have hm : (q : Int) % 8 = ((q % 8 : Nat) : Int) := by simp
          have hjl : q / 8 < s.size := by omega
          have hml : q % 8 < 8 := by omega
          generalize q / 8 = j at *
          generalize q % 8 = m at *
          have hj2 : (q : Int).tdiv 8 = (j : Int) := by rw [Int.tdiv_eq_ediv_of_nonneg (by omega)]; exact hj
          have hm2 : (q : Int).tmod 8 = (m : Int) := by rw [Int.tmod_eq_emod_of_nonneg (by omega)]; exact hm
          have hc := hrow.byte0 j (by omega)
          have hfr := hrow.frozen0 j (by rw [bvals_length]; omega)
          have hjl2 : (j : Int) < (s.size : Int) := by omega
          have hjc : (j : Int) < (cap : Int) := by omega
          have hmi : (m : Int) < 8 := by omega
          have hsh : IntKind.u8.wrap (1 * 2 ^ m) = ((2 ^ m : Nat) : Int) := by
            have := pow_byte m hml
            rw [Int.one_mul, show ((2 : Int) ^ m) = ((2 ^ m : Nat) : Int) from by simp]
            generalize 2 ^ m = P at *
            rw [IntKind.wrap_u8']; omega
          have hwq : IntKind.i64.wrap (q : Int) = (q : Int) := IntWalk.i64_in _ ⟨by omega, by omega⟩
          have hwj : IntKind.i64.wrap (j : Int) = (j : Int) := IntWalk.i64_in _ ⟨by omega, by omega⟩
          have hxo := u8_xor_nat ((fl k).getD j 0).toNat (2 ^ m) (UInt8.toNat_lt _) (pow_byte m hml)
          go_wp2_with fail
          go_still_tail 14, (by kernel_rfl)
          change wpList _ _ _ _ _ wr.drew
          go_wp2_with fail
          go_roundw
          case rel =>
            have hg : (fl k)[j]'(by omega) = (fl k).getD j 0 := by
              rw [List.getD_eq_getElem?_getD, List.getElem?_eq_getElem (by omega)]; rfl
            have hp2 : ((2 : Int) ^ m % 256) = ((2 ^ m : Nat) : Int) := by rw [← hsh, IntKind.wrap_u8', Int.one_mul]
            have hset := hrow.drew.set0 j (by rw [bvals_length]; omega) (bval (UInt8.ofNat (((fl k).getD j 0).toNat ^^^ 2 ^ m)))
            rw [bvals_set, ← hst] at hset
            have hv : bval (UInt8.ofNat (((fl k).getD j 0).toNat ^^^ 2 ^ m)) = .int .u8 ((((fl k).getD j 0).toNat ^^^ 2 ^ m : Nat) : Int) := by rw [bval, set_byte _ _ hml]
            rw [hv, ← hxo, ← hp2, ← hg] at hset
            refine ⟨k + 1, by omega, by omega, by go_num, ?_, ?_⟩
            · exact hset
            · exact (hb.setCell (p := ⟨B, j, none⟩) (Nat.le_refl _) _).drew
          case measure => simp [intOf]; omega
      · have h8' : 8 * (s.size : Int) ≤ (q : Int) := by omega
        have hconv := run_string_of (P := Try.prog) 79 5 9 Try.underlying79 Try.underlying5 Try.underlying9 hrow s.size cap (by omega)
        go_wp2_with fail
        go_ret
        refine ⟨k, by omega, by rw [HPP.out]; omega, ?_, by rw [HB.out]; exact hb⟩
        rw [HPP.out, HFL.out]; rfl
    · obtain rfl : k = 32 := by omega
      have hconv := run_string_of (P := Try.prog) 79 5 9 Try.underlying79 Try.underlying5 Try.underlying9 hrow s.size cap (by omega)
      go_wp2_with fail
      go_ret
      refine ⟨32, by omega, by rw [HPP.out]; omega, ?_, by rw [HB.out]; exact hb⟩
      rw [HPP.out, HFL.out]; rfl
set_option maxRecDepth 100000 in
theorem keepTurned_none (s : ByteArray) (a : Int) (bt : Nat) (w : World) (h0 : s.size = 0) :
    Calls Try.prog 19 #[.string s, .int .i64 a, .int .u32 bt] w fun e w' => e = .returned (.string s) ∧ w = w' := by
  have hne : s.toList.isEmpty = true := by
    rw [ByteArray.toList_eq]
    have hlen : s.data.toList.length = s.size := data_length s
    cases hl : s.data.toList with
    | nil => rfl
    | cons _ _ => rw [hl] at hlen; simp at hlen; omega
  go_enter Try.func19, Try.ntmps19
  go_wp2_with fail
  go_ret
  exact ⟨rfl, rfl⟩
theorem crcP_crcM : crcP = crcM := rfl
theorem keepTurned (s : ByteArray) (a : Int) (bt : Nat) (w : World) (hs : s.size ≤ 200) (hbt : bt < 4294967296) :
    Calls Try.prog 19 #[.string s, .int .i64 a, .int .u32 bt] w fun e w' =>
      ∃ t : ByteArray, e = .returned (.string t) ∧ t.size ≤ 200 ∧ (ofN crcP t.data.toList = ofN crcP s.data.toList ↔ t = s) ∧ Below w.heap.size w w' := by
  by_cases h0 : s.size = 0
  · refine (keepTurned_none s a bt w h0).mono ?_
    rintro e w' ⟨rfl, rfl⟩
    exact ⟨s, rfl, hs, ⟨fun _ => rfl, fun _ => rfl⟩, Below.refl _ _⟩
  · refine (keepTurned_any s a bt w hs (by omega) hbt).mono ?_
    rintro e w' ⟨n, hn, hpn, rfl, hb⟩
    refine ⟨_, rfl, ?_, ?_, hb⟩
    · rw [bstr_size, flipTo_length, data_length]; exact hs
    · rw [bstr_data, crcP_crcM, burst _ _ _ _ hn (by rw [data_length]; exact hpn)]
      constructor
      · intro h; rw [h]; exact (eq_bstr s).symm
      · intro h
        have := congrArg (fun x : ByteArray => x.data.toList) h
        simpa only [bstr_data] using this
set_option maxRecDepth 100000 in
set_option maxHeartbeats 1000000 in
theorem SumsBurst_walk (s : ByteArray) (a : Int) (bt : Nat) (hs : s.size ≤ 140737488351232) (_ : -9223372036854775808 ≤ a) (_ : a ≤ 9223372036854775807) (hbt : bt < 4294967296) (w : World) :
    Calls Try.prog 4 #[.string s, .int .i64 a, .int .u32 bt] w fun e w' => e = .returned (.bool true) ∧ Below w.heap.size w w' := by
  have hmin : (if (200 : Int) < (s.size : Int) then (200 : Int) else (s.size : Int)) = ((min s.size 200 : Nat) : Int) := by split <;> omega
  have hN1 : min s.size 200 ≤ s.size := Nat.min_le_left _ _
  have hN2 : min s.size 200 ≤ 200 := Nat.min_le_right _ _
  generalize min s.size 200 = N at *
  have hN1' : (N : Int) ≤ (s.size : Int) := by omega
  go_enter Try.func4, Try.ntmps4
  go_wp2_with fail
  refine (summed_any _).mono ?_
  rintro e w1 ⟨rfl, hb1⟩
  go_wp2_with fail
  have hsz := extract_size s 0 N hN1
  rw [Nat.sub_zero] at hsz
  generalize s.extract 0 N = s1 at *
  clear hmin hN1 hN1'
  refine (keepTurned s1 a bt _ (by omega) hbt).mono ?_
  rintro e w2 ⟨t, rfl, ht, hiff, hb2⟩
  have hcs := fun w => Crc_any s1 w (by omega)
  have hct := fun w => Crc_any t w (by omega)
  generalize ofN crcP t.data.toList = A at *
  generalize ofN crcP s1.data.toList = B at *
  have hbb := hb1.trans (hb2.mono hb1.size)
  by_cases hts : t = s1
  · subst hts
    obtain rfl : A = B := hiff.2 rfl
    go_wp2_with fail
    refine (hct _).mono ?_
    rintro e w3 ⟨rfl, hb3⟩
    go_wp2_with fail
    refine (hct _).mono ?_
    rintro e w4 ⟨rfl, hb4⟩
    go_wp2_with fail
    go_ret
    have h3 := hbb.trans (hb3.mono hbb.size)
    exact ⟨ret_bool (by simp), h3.trans (hb4.mono h3.size)⟩
  · have hAB : ((A : Int) == (B : Int)) = false := by
      rw [beq_eq_false_iff_ne]
      intro h
      exact hts (hiff.1 (by omega))
    go_wp2_with fail
    refine (hct _).mono ?_
    rintro e w3 ⟨rfl, hb3⟩
    go_wp2_with fail
    refine (hcs _).mono ?_
    rintro e w4 ⟨rfl, hb4⟩
    go_wp2_with fail
    go_ret
    have h3 := hbb.trans (hb3.mono hbb.size)
    refine ⟨ret_bool ?_, h3.trans (hb4.mono h3.size)⟩
    have hl : (t.toList == s1.toList) = false := by
      rw [beq_eq_false_iff_ne, ByteArray.toList_eq, ByteArray.toList_eq]
      intro h
      apply hts
      rw [eq_bstr t, eq_bstr s1, h]
    rw [hl]; rfl
end Go.Proofs.Ytdjddiajnalffaa
