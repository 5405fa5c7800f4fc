/- Contracts of the makers of the laws on sums; the fact 'summed'. -/
import Derived.Test.YtdjddiajnalffaaSumsB
namespace Go.Proofs.Ytdjddiajnalffaa
open Go.RowKit
set_option linter.unusedVariables false
set_option linter.unusedSimpArgs false
def crcP : SumP := ⟨32, 79764919, true, 4294967295, 4294967295⟩
theorem crcP_ok : crcP.Ok := ⟨.inr (.inr rfl), by decide, by decide, by decide, by decide⟩
set_option maxRecDepth 100000 in
theorem crc_any (w : World) : Calls Try.prog 46 #[] w fun e w' => e = .returned (sumVal crcP) ∧ Below w.heap.size w w' := by
  go_enter Try.func46, Try.ntmps46
  go_wp2_with fail
  exact bodyPost_ret (v := sumVal crcP) (by simp [results, Try.results46, go_sem, sumVal, sumCells, crcP]) rfl ⟨rfl, (Below.refl _ _).alloc (Nat.le_refl _) _⟩
set_option maxRecDepth 100000 in
theorem Crc_any (s : ByteArray) (w : World) (hs : s.size ≤ 140737488351232) :
    Calls Try.prog 20 #[.string s] w fun e w' => e = .returned (.int .u32 (ofN crcP s.data.toList : Nat)) ∧ Below w.heap.size w w' := by
  go_enter Try.func20, Try.ntmps20
  go_wp2_with fail
  refine (Of_any crcP s _ crcP_ok hs).mono ?_
  rintro e w1 ⟨rfl, hb⟩
  go_wp2_with fail
  go_ret
  exact ⟨rfl, hb⟩
set_option maxRecDepth 100000 in
theorem of_any (m : SumP) (s : ByteArray) (w : World) (hm : m.Ok) (hs : s.size ≤ 140737488351232) :
    Calls Try.prog 17 #[sumVal m, .string s] w fun e w' => e = .returned (.tuple #[.int .u32 (ofN m s.data.toList : Nat), .bool true]) ∧ Below w.heap.size w w' := by
  unfold sumVal sumCells
  go_enter Try.func17, Try.ntmps17
  go_wp2_with fail
  refine (Of_any m s _ hm hs).mono ?_
  rintro e w1 ⟨rfl, hb⟩
  go_wp2_with fail
  go_quiet (fail)
  go_wp2_with fail
  go_ret2
  exact ⟨rfl, bdrewN (((Below.refl _ _).alloc (Nat.le_refl _) _).trans (hb.mono (by simp))) _⟩
def madeP (wd : Nat) (p i o : Nat) (t : Bool) : SumP := ⟨wd, (p % 2 ^ wd) ||| 1, t, i % 2 ^ wd, o % 2 ^ wd⟩
def madeW (a : Int) : Nat := 8 * 2 ^ pickN a 3
theorem madeW_or (a : Int) : madeW a = 8 ∨ madeW a = 16 ∨ madeW a = 32 := by
  have h := pickN_lt a 3 (by omega)
  unfold madeW
  obtain h | h | h : pickN a 3 = 0 ∨ pickN a 3 = 1 ∨ pickN a 3 = 2 := by omega
  all_goals simp [h]
theorem bit_or_one (x : Nat) : (x ||| 1) / 2 ^ 0 % 2 = 1 := by
  rw [← Nat.toNat_testBit, Nat.testBit_or]
  simp
theorem or_one (x : Nat) : (x ||| 1) % 2 = 1 := by
  have h := bit_or_one x
  omega
theorem madeP_ok (wd p i o : Nat) (t : Bool) (h : wd = 8 ∨ wd = 16 ∨ wd = 32) : (madeP wd p i o t).Ok := by
  have h0 : 0 < 2 ^ wd := Nat.pow_pos (by decide)
  refine ⟨h, ?_, ?_, Nat.mod_lt _ h0, Nat.mod_lt _ h0⟩
  · have h1 : 1 < 2 ^ wd := Nat.one_lt_two_pow (by omega)
    exact Nat.or_lt_two_pow (Nat.mod_lt _ h0) h1
  · exact or_one _
set_option maxRecDepth 100000 in
theorem made_any (a : Int) (p i o : Nat) (t : Bool) (w : World) (hp : p < 4294967296) (hi : i < 4294967296) (ho : o < 4294967296) :
    Calls Try.prog 16 #[.int .i64 a, .int .u32 p, .int .u32 i, .int .u32 o, .bool t] w fun e w' => e = .returned (sumVal (madeP (madeW a) p i o t)) ∧ Below w.heap.size w w' := by
  have hwo := madeW_or a
  have hpk := pickN_lt a 3 (by omega)
  have hmw : madeW a = 8 * 2 ^ pickN a 3 := rfl
  go_enter Try.func16, Try.ntmps16
  go_wp2_with fail
  refine (pick_at a 3 3 _ rfl (by omega) (by omega)).mono ?_
  rintro e w1 ⟨rfl, rfl⟩
  generalize pickN a 3 = k at *
  generalize hW : madeW a = wd at *
  have HW := Lib.hid hW; clear hW
  obtain rfl | rfl | rfl : k = 0 ∨ k = 1 ∨ k = 2 := by omega
  · obtain rfl : wd = 8 := hmw
    have f1 := u32_and_nat p 255 hp (by decide)
    have f2 := u32_and_nat i 255 hi (by decide)
    have f3 := u32_and_nat o 255 ho (by decide)
    rw [show (255 : Nat) = 2 ^ 8 - 1 from rfl, Nat.and_two_pow_sub_one_eq_mod] at f1 f2 f3
    have hpm : p % 2 ^ 8 < 2 ^ 8 := Nat.mod_lt _ (by decide)
    have f4 := u32_or_nat (p % 2 ^ 8) 1 (by omega) (by decide)
    have e : sumVal (madeP 8 p i o t) = .agg #[.int .i64 8, .int .u32 ((p % 2 ^ 8 ||| 1 : Nat) : Int), .bool t, .int .u32 ((i % 2 ^ 8 : Nat) : Int), .int .u32 ((o % 2 ^ 8 : Nat) : Int)] := rfl
    generalize p % 2 ^ 8 ||| 1 = P1 at *
    generalize p % 2 ^ 8 = P2 at *
    generalize i % 2 ^ 8 = I2 at *
    generalize o % 2 ^ 8 = O2 at *
    have HE := Lib.hid e; clear e
    simp only [Nat.reduceSub, Nat.reducePow, Int.cast_ofNat_Int] at f1 f2 f3 f4
    go_wp2_with fail
    refine bodyPost_ret (v := .agg #[.int .i64 8, .int .u32 P1, .bool t, .int .u32 I2, .int .u32 O2]) (by simp [results, Try.results16, go_sem]) rfl ⟨by rw [HW.out, HE.out], ((Below.refl _ _).alloc (Nat.le_refl _) _).alloc (by simp) _⟩
  · obtain rfl : wd = 16 := hmw
    have f1 := u32_and_nat p 65535 hp (by decide)
    have f2 := u32_and_nat i 65535 hi (by decide)
    have f3 := u32_and_nat o 65535 ho (by decide)
    rw [show (65535 : Nat) = 2 ^ 16 - 1 from rfl, Nat.and_two_pow_sub_one_eq_mod] at f1 f2 f3
    have hpm : p % 2 ^ 16 < 2 ^ 16 := Nat.mod_lt _ (by decide)
    have f4 := u32_or_nat (p % 2 ^ 16) 1 (by omega) (by decide)
    have e : sumVal (madeP 16 p i o t) = .agg #[.int .i64 16, .int .u32 ((p % 2 ^ 16 ||| 1 : Nat) : Int), .bool t, .int .u32 ((i % 2 ^ 16 : Nat) : Int), .int .u32 ((o % 2 ^ 16 : Nat) : Int)] := rfl
    generalize p % 2 ^ 16 ||| 1 = P1 at *
    generalize p % 2 ^ 16 = P2 at *
    generalize i % 2 ^ 16 = I2 at *
    generalize o % 2 ^ 16 = O2 at *
    have HE := Lib.hid e; clear e
    simp only [Nat.reduceSub, Nat.reducePow, Int.cast_ofNat_Int] at f1 f2 f3 f4
    go_wp2_with fail
    refine bodyPost_ret (v := .agg #[.int .i64 16, .int .u32 P1, .bool t, .int .u32 I2, .int .u32 O2]) (by simp [results, Try.results16, go_sem]) rfl ⟨by rw [HW.out, HE.out], ((Below.refl _ _).alloc (Nat.le_refl _) _).alloc (by simp) _⟩
  · obtain rfl : wd = 32 := hmw
    have f1 := u32_and_nat p 4294967295 hp (by decide)
    have f2 := u32_and_nat i 4294967295 hi (by decide)
    have f3 := u32_and_nat o 4294967295 ho (by decide)
    rw [show (4294967295 : Nat) = 2 ^ 32 - 1 from rfl, Nat.and_two_pow_sub_one_eq_mod] at f1 f2 f3
    have hpm : p % 2 ^ 32 < 2 ^ 32 := Nat.mod_lt _ (by decide)
    have f4 := u32_or_nat (p % 2 ^ 32) 1 (by omega) (by decide)
    have e : sumVal (madeP 32 p i o t) = .agg #[.int .i64 32, .int .u32 ((p % 2 ^ 32 ||| 1 : Nat) : Int), .bool t, .int .u32 ((i % 2 ^ 32 : Nat) : Int), .int .u32 ((o % 2 ^ 32 : Nat) : Int)] := rfl
    generalize p % 2 ^ 32 ||| 1 = P1 at *
    generalize p % 2 ^ 32 = P2 at *
    generalize i % 2 ^ 32 = I2 at *
    generalize o % 2 ^ 32 = O2 at *
    have HE := Lib.hid e; clear e
    simp only [Nat.reduceSub, Nat.reducePow, Int.cast_ofNat_Int] at f1 f2 f3 f4
    go_wp2_with fail
    refine bodyPost_ret (v := .agg #[.int .i64 32, .int .u32 P1, .bool t, .int .u32 I2, .int .u32 O2]) (by simp [results, Try.results16, go_sem]) rfl ⟨by rw [HW.out, HE.out], ((Below.refl _ _).alloc (Nat.le_refl _) _).alloc (by simp) _⟩

theorem xorV_get (a b : List UInt8) (k : Nat) (h1 : k < a.length) (h2 : k < b.length) : (xorV a b).getD k 0 = UInt8.ofNat ((a.getD k 0).toNat ^^^ (b.getD k 0).toNat) := by
  have h3 : k < (xorV a b).length := by rw [xorV_length]; omega
  rw [List.getD_eq_getElem?_getD, List.getElem?_eq_getElem h3, List.getD_eq_getElem?_getD, List.getElem?_eq_getElem h1, List.getD_eq_getElem?_getD, List.getElem?_eq_getElem h2]
  simp [xorV]
set_option maxRecDepth 100000 in
theorem together_any (a b : ByteArray) (N : Nat) (w : World) (ha : a.size = N) (hb : b.size = N) (hN : N ≤ 140737488351232) :
    Calls Try.prog 18 #[.string a, .string b] w fun e w' => e = .returned (.string (bstr (xorV a.data.toList b.data.toList))) ∧ Below w.heap.size w w' := by
  obtain ⟨i0, hi0, hz0, hz1, hz2⟩ := info_parts infoU8
  have hla : a.data.toList.length = a.size := data_length a
  have hlb : b.data.toList.length = b.size := data_length b
  have hab : (b.size : Int) ≤ (a.size : Int) := by omega
  have haN : a.size ≤ 140737488351232 := by omega
  have hbN : b.size ≤ 140737488351232 := by omega
  have hab' : (a.size : Int) ≤ (b.size : Int) := by omega
  have hxl := xorV_length a.data.toList b.data.toList
  have hxg := fun k h1 h2 => xorV_get a.data.toList b.data.toList k h1 h2
  generalize hX : xorV a.data.toList b.data.toList = X at *
  have HXG := Lib.hid hxg; clear hxg
  have hXN : X.length = a.size := by omega
  clear hxl hX ha hb
  go_enter Try.func18, Try.ntmps18
  go_wp2_with (at_make; with_reducible refine wpList_make0 _ rfl _ _ _ rfl 5 i0 (.int .u8 0) Try.underlying79 hi0 hz0 hz1 rfl .i64 .i64 _ _ a.size rfl rfl rfl rfl (by rw [hz2]; omega) (by unfold maxLen; omega) ?_; intro w1 hrow hb hsz)
  rw [← hXN, ← fillTo_zero] at hrow
  generalize hB : w.heap.size = B at *
  have HB := Lib.hid hB; clear hB
  go_outline
  go_loopw [7] (fun i wr => ∃ k : Nat, k ≤ a.size ∧ i = .int .i64 k ∧ RowAt wr B 0 5 (bvals (fillTo X k)) ∧ Below B w wr) (fun i _ => a.size - (intOf i).toNat)
  case atStart => exact ⟨0, by omega, rfl, hrow, hb⟩
  case round =>
    clear hrow hb
    obtain ⟨k, hk, rfl, hrow, hb⟩ := hrel
    have hfl := fillTo_length X k (by omega)
    by_cases hlt : k < a.size
    · have hcell := hrow.byte0 k (by omega)
      have hfr := hrow.frozen0 k (by rw [bvals_length]; omega)
      have hxb := HXG.out k (by omega) (by omega)
      have hx1 : a[k].toNat < 256 := UInt8.toNat_lt _
      have hkb : k < b.size := by omega
      have hx2 : b[k].toNat < 256 := UInt8.toNat_lt _
      rw [← byteAt a k hlt, ← byteAt b k hkb] at hxb
      have hxor := u8_xor_nat a[k].toNat b[k].toNat hx1 hx2
      have hval : (.int .u8 ((a[k].toNat ^^^ b[k].toNat : Nat) : Int) : Value) = bval (X.getD k 0) := by
        rw [hxb, bval, xor_byte]
      have HV := Lib.hid hval; clear hval hxb
      go_wp2_with fail
      go_still_tail 10, (by kernel_rfl)
      change wpList _ _ _ _ _ wr.drew
      go_wp2_with fail
      go_roundw
      case rel => exact ⟨k + 1, by omega, by go_num, (hrow.fill (by omega) HV.out).drew, (hb.setCell (p := ⟨B, k, none⟩) (Nat.le_refl _) _).drew⟩
      case measure => simp [intOf]; omega
    · obtain rfl : k = a.size := by omega
      have hconv := run_string_of (P := Try.prog) 79 5 9 Try.underlying79 Try.underlying5 Try.underlying9 hrow a.size a.size (by omega)
      go_wp2_with fail
      go_ret
      refine ⟨?_, by rw [HB.out]; exact hb⟩
      rw [← hXN, fillTo_full]
      rfl
end Go.Proofs.Ytdjddiajnalffaa
