/- The walk of the law BitsRound. -/
import Derived.Test.YtlpockgofejogaaBitsE
namespace Go.Proofs.Ytlpockgofejogaa
open Go.RowKit
set_option linter.unusedVariables false
theorem Rotate_all (s : ByteArray) (n : Int) (w : World) (hs : s.size ≤ 140737488351232) (hn : -100000 ≤ n) (hn' : n ≤ 100000) :
    Calls Try.prog 27 #[.string s, .int .i64 n] w fun e w' => e = .returned (.string (bstr (rotV s.data.toList (n % (8 * s.size)).toNat))) ∧ Below w.heap.size w w' := by
  by_cases h0 : s.size = 0
  · have he : s.data.toList = [] := List.eq_nil_of_length_eq_zero (by rw [data_length]; exact h0)
    refine (Rotate_nil n s w h0).mono ?_
    rintro e w' ⟨rfl, rfl⟩
    rw [he]
    exact ⟨rfl, Below.refl _ _⟩
  · exact Rotate_any s n w h0 hs hn hn'
theorem rot_rot (l : List UInt8) (n m : Int) (N : Nat) (hN : N = l.length) : rotV (rotV l (n % (8 * N)).toNat) (m % (8 * N)).toNat = rotV l ((n + m) % (8 * N)).toNat := by
  subst hN
  rcases Nat.eq_zero_or_pos l.length with h | h
  · have : l = [] := List.eq_nil_of_length_eq_zero h
    subst this; rfl
  · apply rotV_rotV
    have h1 := Int.emod_nonneg n (show (8 * (l.length : Int)) ≠ 0 by omega)
    have h2 := Int.emod_nonneg m (show (8 * (l.length : Int)) ≠ 0 by omega)
    have h3 := Int.emod_nonneg (n + m) (show (8 * (l.length : Int)) ≠ 0 by omega)
    have e : (((n % (8 * l.length)).toNat + (m % (8 * l.length)).toNat : Nat) : Int) % (8 * l.length) = (n + m) % (8 * l.length) := by
      rw [Int.natCast_add, Int.toNat_of_nonneg h1, Int.toNat_of_nonneg h2, ← Int.add_emod]
    have e2 : (((n + m) % (8 * l.length)).toNat : Int) % (8 * l.length) = (n + m) % (8 * l.length) := by
      rw [Int.toNat_of_nonneg h3, Int.emod_emod_of_dvd _ (Int.dvd_refl _)]
    have e3 := e2.trans e.symm
    apply Int.ofNat.inj
    simpa using e3
set_option maxRecDepth 100000 in
set_option maxHeartbeats 2000000 in
theorem BitsRound_walk (s : ByteArray) (n m : Int) (hs : s.size ≤ 140737488351232) (_ : -9223372036854775808 ≤ n) (_ : n ≤ 9223372036854775807)
    (_ : -9223372036854775808 ≤ m) (_ : m ≤ 9223372036854775807) (w : World) :
    Calls Try.prog 8 #[.string s, .int .i64 n, .int .i64 m] w fun e w' => e = .returned (.bool true) ∧ Below w.heap.size w w' := by
  by_cases hbig : 100 < s.size
  · have hbig' : (100 : Int) < (s.size : Int) := by omega
    go_enter Try.func8, Try.ntmps8
    go_wp2_with fail
    refine (bitten_any _).mono ?_
    rintro e w1 ⟨rfl, hb1⟩
    go_wp2_with fail
    go_ret
    exact ⟨rfl, hb1⟩
  · have hbig' : (s.size : Int) ≤ 100 := by omega
    go_enter Try.func8, Try.ntmps8
    go_wp2_with fail
    refine (bitten_any _).mono ?_
    rintro e w1 ⟨rfl, hb1⟩
    go_wp2_with fail
    refine (pick_at n _ 5000 _ rfl (by omega) (by omega)).mono ?_
    rintro e w2 ⟨rfl, rfl⟩
    have hn1 := pickN_lt n 5000 (by omega)
    generalize pickN n 5000 = nn at *
    go_wp2_with fail
    refine (pick_at m _ 5000 _ rfl (by omega) (by omega)).mono ?_
    rintro e w2 ⟨rfl, rfl⟩
    have hm1 := pickN_lt m 5000 (by omega)
    generalize pickN m 5000 = mm at *
    have hlen : s.data.toList.length = s.size := data_length s
    have hrr := rot_rot s.data.toList ((nn : Int) - 2500) ((mm : Int) - 2500) s.size hlen.symm
    go_wp2_with fail
    refine (Rotate_all s _ _ hs (by omega) (by omega)).mono ?_
    rintro e w2 ⟨rfl, hb2⟩
    have hpt := popV_rotV s.data.toList (((nn : Int) - 2500) % (8 * s.size)).toNat
    have htl := rotV_length s.data.toList (((nn : Int) - 2500) % (8 * s.size)).toNat
    generalize rotV s.data.toList (((nn : Int) - 2500) % (8 * s.size)).toNat = T at *
    rw [hlen] at htl
    have HRR := Lib.hid hrr; clear hrr
    go_wp2_with fail
    refine (Rotate_all (bstr T) _ _ (by rw [bstr_size]; omega) (by omega) (by omega)).mono ?_
    rintro e w3 ⟨rfl, hb3⟩
    rw [bstr_data, bstr_size, htl, HRR.out]
    generalize hR : rotV s.data.toList (((nn : Int) - 2500 + ((mm : Int) - 2500)) % (8 * s.size)).toNat = R at *
    have HR := Lib.hid hR; clear hR
    go_wp2_with fail
    refine (Rotate_all s _ _ hs (by omega) (by omega)).mono ?_
    rintro e w4 ⟨rfl, hb4⟩
    rw [HR.out]
    go_wp2_with fail
    refine (Count_any (bstr T) _ (by rw [bstr_size]; omega)).mono ?_
    rintro e w5 ⟨rfl, rfl⟩
    rw [bstr_data, hpt]
    clear hpt
    generalize hP : popV s.data.toList = P at *
    have HP := Lib.hid hP; clear hP
    go_wp2_with fail
    refine (Count_any s _ hs).mono ?_
    rintro e w5 ⟨rfl, rfl⟩
    rw [HP.out]
    go_wp2_with fail
    refine (Turn_any s _ hs).mono ?_
    rintro e w5 ⟨rfl, hb5⟩
    have htt := turnV_turnV s.data.toList
    have htp := popV_turnV s.data.toList
    have htn : (turnV s.data.toList).length = s.size := by rw [turnV, List.length_map, hlen]
    generalize hU : turnV s.data.toList = U at *
    have HU := Lib.hid hU; clear hU
    have HTT := Lib.hid htt; clear htt
    have HTP := Lib.hid htp; clear htp
    go_wp2_with fail
    refine (Turn_any (bstr U) _ (by rw [bstr_size]; omega)).mono ?_
    rintro e w6 ⟨rfl, hb6⟩
    rw [bstr_data, HTT.out]
    have hsl := ByteArray.toList_eq s
    generalize hl : s.data.toList = l at *
    have HL := Lib.hid hl; clear hl
    go_wp2_with fail
    refine (Turn_any s _ hs).mono ?_
    rintro e w7 ⟨rfl, hb7⟩
    rw [HL.out, HU.out]
    go_wp2_with fail
    refine (Count_any (bstr U) _ (by rw [bstr_size]; omega)).mono ?_
    rintro e w8 ⟨rfl, rfl⟩
    rw [bstr_data, HTP.out, HP.out]
    go_wp2_with fail
    refine (Count_any s _ hs).mono ?_
    rintro e w8 ⟨rfl, rfl⟩
    rw [HL.out, HP.out]
    go_wp2_with fail
    refine (Rotate_all s _ _ hs (by omega) (by omega)).mono ?_
    rintro e w9 ⟨rfl, hb9⟩
    rw [HL.out, Int.emod_self, Int.toNat_zero, rotV_zero]
    go_wp2_with fail
    have c2 := hb1.trans (hb2.mono hb1.size)
    have c3 := c2.trans (hb3.mono c2.size)
    have c4 := c3.trans (hb4.mono c3.size)
    have c5 := c4.trans (hb5.mono c4.size)
    have c6 := c5.trans (hb6.mono c5.size)
    have c7 := c6.trans (hb7.mono c6.size)
    have c9 := c7.trans (hb9.mono c7.size)
    go_ret
    exact ⟨rfl, c9⟩
end Go.Proofs.Ytlpockgofejogaa
