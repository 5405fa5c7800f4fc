/- Contracts of package bits: bit, fits, Get, Put. -/
import Derived.Test.YtlpockgofejogaaChecked
import Derived.Test.YtlpockgofejogaaPlainBits
import Derived.Test.YtlpockgofejogaaInfo
namespace Go.Proofs.Ytlpockgofejogaa
open Go.RowKit
set_option linter.unusedVariables false

set_option maxRecDepth 100000 in
theorem bit_any (p o : Nat) (P : Int) (w : World) (hP : P = (p : Int)) (hp : p ≤ 4611686018427387904) (ho : o = 0 ∨ o = 1) :
    Calls Try.prog 56 #[.int .i64 P, .int .i64 o] w fun e w' => e = .returned (.tuple #[.int .i64 (p / 8 : Nat), .int .u64 (shiftOf o p : Nat)]) ∧ w = w' := by
  subst hP
  have h1 : ((shiftOf 1 p : Nat) : Int) = 7 - (p : Int) % 8 := by unfold shiftOf; rw [if_pos rfl]; omega
  have h0 : ((shiftOf 0 p : Nat) : Int) = (p : Int) % 8 := by unfold shiftOf; rw [if_neg (by decide)]; omega
  have H1 := Lib.hid h1; have H0 := Lib.hid h0
  clear h1 h0
  rcases ho with rfl | rfl
  · go_enter Try.func56, Try.ntmps56
    go_wp2_with fail
    go_ret2
    refine ⟨?_, rfl⟩
    rw [H0.out]
    rfl
  · go_enter Try.func56, Try.ntmps56
    go_wp2_with fail
    go_ret2
    refine ⟨?_, rfl⟩
    rw [H1.out]
    rfl
set_option maxRecDepth 100000 in
theorem fits_yes (s : ByteArray) (a n : Nat) (w : World) (hs : s.size ≤ 140737488351232) (hn : n ≤ 64) (ha : a + n ≤ 8 * s.size) :
    Calls Try.prog 57 #[.string s, .int .i64 a, .int .i64 n] w fun e w' => e = .returned (.bool true) ∧ w = w' := by
  go_enter Try.func57, Try.ntmps57
  go_wp2_with fail
  go_ret
  exact ⟨ret_bool (decide_eq_true (by omega)), rfl⟩

set_option maxRecDepth 100000 in
theorem BGet_any (s : ByteArray) (a n o : Nat) (A : Int) (w : World) (hA : A = (a : Int)) (hs : s.size ≤ 140737488351232) (hn : n ≤ 64) (ha : a + n ≤ 8 * s.size) (ho : o = 0 ∨ o = 1) :
    Calls Try.prog 26 #[.string s, .int .i64 A, .int .i64 n, .int .i64 o] w fun e w' => e = .returned (.tuple #[.int .u64 (getV s.data.toList o a n : Nat), .nilIface]) ∧ w = w' := by
  subst hA
  rcases ho with rfl | rfl
  · go_enter Try.func26, Try.ntmps26
    go_wp2_with (go_at_call 57; refine (fits_yes s a n _ hs hn ha).mono ?_; rintro e w' ⟨rfl, rfl⟩)
    go_loop [10, 31] (fun v i => ∃ k : Nat, k ≤ n ∧ i = .int .i64 k ∧ v = .int .u64 (getV s.data.toList 0 a k : Nat)) (fun v i => n - (intOf i).toNat)
    case atStart => exact ⟨0, by omega, rfl, rfl⟩
    case round =>
      obtain ⟨k, hk, rfl, rfl⟩ := hrel
      have hg := getV_lt s.data.toList 0 a k
      generalize hG : getV s.data.toList 0 a k = G at *
      have HG := Lib.hid hG; clear hG
      by_cases hlt : k < n
      · have hix : (((a + k) / 8 : Nat) : Int) < (s.size : Int) := by omega
        have hsh := shiftOf_lt 0 (a + k)
        generalize hSH : shiftOf 0 (a + k) = sh at *
        have HSH := Lib.hid hSH; clear hSH
        go_wp2_with fail
        refine (bit_any (a + k) 0 _ _ (by omega) (by omega) (by omega)).mono ?_
        rintro e w' ⟨rfl, rfl⟩
        rw [HSH.out]
        generalize hI : (a + k) / 8 = ix at *
        have HI := Lib.hid hI; clear hI
        go_wp2_with fail
        go_round
        case rel =>
          exact ⟨k + 1, by omega, by go_num, val_int (getV_little_step s a k G ix sh HG.out HI.out HSH.out hg (by omega) (by omega))⟩
        case measure => simp [intOf]; omega
      · obtain rfl : k = n := by omega
        go_wp2_with fail
        go_ret2
        exact ⟨by rw [HG.out]; rfl, rfl⟩
  · go_enter Try.func26, Try.ntmps26
    go_wp2_with (go_at_call 57; refine (fits_yes s a n _ hs hn ha).mono ?_; rintro e w' ⟨rfl, rfl⟩)
    go_loop [10, 31] (fun v i => ∃ k : Nat, k ≤ n ∧ i = .int .i64 k ∧ v = .int .u64 (getV s.data.toList 1 a k : Nat)) (fun v i => n - (intOf i).toNat)
    case atStart => exact ⟨0, by omega, rfl, rfl⟩
    case round =>
      obtain ⟨k, hk, rfl, rfl⟩ := hrel
      have hg := getV_lt s.data.toList 1 a k
      generalize hG : getV s.data.toList 1 a k = G at *
      have HG := Lib.hid hG; clear hG
      by_cases hlt : k < n
      · have hix : (((a + k) / 8 : Nat) : Int) < (s.size : Int) := by omega
        have hsh := shiftOf_lt 1 (a + k)
        generalize hSH : shiftOf 1 (a + k) = sh at *
        have HSH := Lib.hid hSH; clear hSH
        go_wp2_with fail
        refine (bit_any (a + k) 1 _ _ (by omega) (by omega) (by omega)).mono ?_
        rintro e w' ⟨rfl, rfl⟩
        rw [HSH.out]
        generalize hI : (a + k) / 8 = ix at *
        have HI := Lib.hid hI; clear hI
        go_wp2_with fail
        go_round
        case rel =>
          exact ⟨k + 1, by omega, by go_num, val_int (getV_big_step s a k G ix sh HG.out HI.out HSH.out hg (by omega) (by omega))⟩
        case measure => simp [intOf]; omega
      · obtain rfl : k = n := by omega
        go_wp2_with fail
        go_ret2
        exact ⟨by rw [HG.out]; rfl, rfl⟩

set_option maxRecDepth 100000 in
theorem BPut_any (s : ByteArray) (a n o v : Nat) (w : World) (hs : s.size ≤ 140737488351232) (hn : n ≤ 64) (ha : a + n ≤ 8 * s.size) (ho : o = 0 ∨ o = 1) (hv : v < 18446744073709551616) :
    Calls Try.prog 25 #[.string s, .int .i64 a, .int .i64 n, .int .i64 o, .int .u64 v] w fun e w' =>
      e = .returned (.tuple #[.string (bstr (putV s.data.toList o a n v n)), .nilIface]) ∧ Below w.heap.size w w' := by
  go_enter Try.func25, Try.ntmps25
  go_wp2_with (first
    | (go_at_call 26; refine (BGet_any s a n o _ _ rfl hs hn ha ho).mono ?_; rintro e w' ⟨rfl, rfl⟩; generalize getV s.data.toList o a n = gg)
    | (with_reducible refine wpList_bytes _ rfl _ _ _ _ rfl Try.underlying9 Try.underlying57 Try.underlying5 s rfl ?_; intro w1 cap hcap hrow hb hsz))
  have hlen : s.data.toList.length = s.size := data_length s
  generalize hl : s.data.toList = l at *
  have HL := Lib.hid hl; clear hl
  generalize hB : w.heap.size = B at *
  have HB := Lib.hid hB; clear hB
  go_loopw [33] (fun i wr => ∃ k : Nat, k ≤ n ∧ i = .int .i64 k ∧ RowAt wr B 0 5 (bvals (putV l o a n v k)) ∧ Below B w wr) (fun i _ => n - (intOf i).toNat)
  case atStart => exact ⟨0, by omega, rfl, hrow, hb⟩
  case round =>
    clear hrow hb
    obtain ⟨k, hk, rfl, hrow, hb⟩ := hrel
    have hpl := putV_length l o a n v k
    by_cases hlt : k < n
    · generalize hL : putV l o a n v k = L at *
      have HLL := Lib.hid hL; clear hL
      have hix : (a + k) / 8 < L.length := by omega
      have hcell := hrow.byte0 _ hix
      have hfr := hrow.frozen0 ((a + k) / 8) (by rw [bvals_length]; exact hix)
      have hx : (L.getD ((a + k) / 8) 0).toNat < 256 := UInt8.toNat_lt _
      generalize hX : (L.getD ((a + k) / 8) 0).toNat = x at *
      have HX := Lib.hid hX; clear hX
      have hsh := shiftOf_lt o (a + k)
      generalize hSH : shiftOf o (a + k) = sh at *
      have HSH := Lib.hid hSH; clear hSH
      go_wp2_with fail
      refine (bit_any (a + k) o _ _ (by omega) (by omega) ho).mono ?_
      rintro e w' ⟨rfl, rfl⟩
      rw [HSH.out]
      generalize hI : (a + k) / 8 = ix at *
      have HI := Lib.hid hI; clear hI
      have hixc : (ix : Int) < (s.size : Int) := by omega
      rcases (show (o : Int) = 1 ∨ (o : Int) ≠ 1 from by omega) with h1 | h1
      · have ho1 : ((o : Int) == 1) = true := by simp [h1]
        clear h1
        go_wp2_with fail
        go_still_tail 18, (by kernel_rfl)
        change wpList _ _ _ _ _ wr.drew
        go_wp2_with fail
        go_roundw
        case rel =>
          have hvd : (v : Int) / 2 ^ (n - 1 - k) = ((v / 2 ^ (n - 1 - k) : Nat) : Int) := ndiv_cast _ _
          have hvl : v / 2 ^ (n - 1 - k) ≤ v := Nat.div_le_self _ _
          rw [hvd]
          have hs := hrow.set0 ix (by rw [bvals_length]; exact hix) (.int .u8 (bits .or .u8 (bits .andNot .u8 (x : Int) (2 ^ sh % 256)) (bits .and .u64 ((v / 2 ^ (n - 1 - k) : Nat) : Int) 1 % 256 * 2 ^ sh % 256)))
          rw [put_step l L o a n v k ix sh x (v / 2 ^ (n - 1 - k)) HLL.out HI.out HSH.out HX.out hsh (by omega) (by rw [fromOf, if_pos (by have := beq_iff_eq.1 ho1; omega)])] at hs
          exact ⟨k + 1, by omega, rfl, hs.drew, (hb.setCell (p := ⟨B, ix, none⟩) (Nat.le_refl _) _).drew⟩
        case measure => simp [intOf]; omega
      · have ho1 : ((o : Int) == 1) = false := by simp; omega
        clear h1
        go_wp2_with fail
        go_still_tail 18, (by kernel_rfl)
        change wpList _ _ _ _ _ wr.drew
        go_wp2_with fail
        go_roundw
        case rel =>
          have hvd : (v : Int) / 2 ^ (k) = ((v / 2 ^ (k) : Nat) : Int) := ndiv_cast _ _
          have hvl : v / 2 ^ (k) ≤ v := Nat.div_le_self _ _
          rw [hvd]
          have hs := hrow.set0 ix (by rw [bvals_length]; exact hix) (.int .u8 (bits .or .u8 (bits .andNot .u8 (x : Int) (2 ^ sh % 256)) (bits .and .u64 ((v / 2 ^ (k) : Nat) : Int) 1 % 256 * 2 ^ sh % 256)))
          rw [put_step l L o a n v k ix sh x (v / 2 ^ (k)) HLL.out HI.out HSH.out HX.out hsh (by omega) (by rw [fromOf, if_neg (by have := beq_eq_false_iff_ne.1 ho1; omega)])] at hs
          exact ⟨k + 1, by omega, rfl, hs.drew, (hb.setCell (p := ⟨B, ix, none⟩) (Nat.le_refl _) _).drew⟩
        case measure => simp [intOf]; omega
    · obtain rfl : k = n := by omega
      have hconv := run_string_of (P := Try.prog) 57 5 9 Try.underlying57 Try.underlying5 Try.underlying9 hrow s.size cap (by rw [hpl, hlen])
      go_wp2_with fail
      go_ret2
      exact ⟨by rw [HL.out]; rfl, by rw [HB.out]; exact hb⟩
end Go.Proofs.Ytlpockgofejogaa
