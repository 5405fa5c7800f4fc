/- The fact 'bitten', and the walks of the laws BitsBack, BitsPieces, BitsRound. -/
import Derived.Test.YtlpockgofejogaaBitsC
import Derived.Test.YtlpockgofejogaaPick
namespace Go.Proofs.Ytlpockgofejogaa
open Go.RowKit
set_option linter.unusedVariables false
theorem bfact1 : getV [15, 128] 1 4 5 = 31 := by decide
theorem bfact2 : putV [0] 0 1 2 3 2 = [6] := by decide
theorem bfact3 : popV [255, 1] = 9 := by decide
theorem bfact4 : turnV [1] = [128] := by decide
set_option maxRecDepth 100000 in
theorem bitten_any (w : World) : Calls Try.prog 24 #[] w fun e w' => e = .returned (.bool true) ∧ Below w.heap.size w w' := by
  go_enter Try.func24, Try.ntmps24
  go_wp2_with fail
  refine (BGet_any (bstr [15, 128]) 4 5 1 _ _ rfl (by decide) (by omega) (by decide) (by omega)).mono ?_
  rintro e w1 ⟨rfl, rfl⟩
  rw [bstr_data, bfact1]
  go_wp2_with fail
  refine (BPut_any (bstr [0]) 1 2 0 3 _ (by decide) (by omega) (by decide) (by omega) (by omega)).mono ?_
  rintro e w1 ⟨rfl, hb1⟩
  rw [bstr_data, bfact2]
  go_wp2_with fail
  refine (Count_any (bstr [255, 1]) _ (by decide)).mono ?_
  rintro e w2 ⟨rfl, rfl⟩
  rw [bstr_data, bfact3]
  go_wp2_with fail
  refine (Turn_any (bstr [1]) _ (by decide)).mono ?_
  rintro e w2 ⟨rfl, hb2⟩
  rw [bstr_data, bfact4]
  go_wp2_with fail
  go_ret
  exact ⟨rfl, hb1.trans (hb2.mono hb1.size)⟩

set_option maxRecDepth 100000 in
set_option maxHeartbeats 2000000 in
theorem BitsBack_walk (s : ByteArray) (a n o : Int) (v : Nat) (look : Int) (hs : s.size ≤ 140737488351232) (_ : -9223372036854775808 ≤ a) (_ : a ≤ 9223372036854775807) (_ : -9223372036854775808 ≤ n) (_ : n ≤ 9223372036854775807)
    (_ : -9223372036854775808 ≤ o) (_ : o ≤ 9223372036854775807) (hv : v < 18446744073709551616) (_ : -9223372036854775808 ≤ look) (_ : look ≤ 9223372036854775807) (w : World) :
    Calls Try.prog 6 #[.string s, .int .i64 a, .int .i64 n, .int .i64 o, .int .u64 v, .int .i64 look] w fun e w' => e = .returned (.bool true) ∧ Below w.heap.size w w' := by
  by_cases h0 : s.size = 0
  · have he : s.toList = [] := by
      rw [ByteArray.toList_eq]; exact List.eq_nil_of_length_eq_zero (by rw [data_length]; exact h0)
    go_enter Try.func6, Try.ntmps6
    go_wp2_with fail
    refine (bitten_any _).mono ?_
    rintro e w1 ⟨rfl, hb1⟩
    go_wp2_with fail
    go_ret
    exact ⟨rfl, hb1⟩
  · have hne := ne_nil s h0
    by_cases hbig : 100 < s.size
    · have hbig' : (100 : Int) < (s.size : Int) := by omega
      go_enter Try.func6, Try.ntmps6
      go_wp2_with fail
      refine (bitten_any _).mono ?_
      rintro e w1 ⟨rfl, hb1⟩
      go_wp2_with fail
      go_ret
      exact ⟨rfl, hb1⟩
    · have hbig' : (s.size : Int) ≤ 100 := by omega
      go_enter Try.func6, Try.ntmps6
      go_wp2_with fail
      refine (bitten_any _).mono ?_
      rintro e w1 ⟨rfl, hb1⟩
      go_wp2_with fail
      refine (pick_at o 2 2 _ rfl (by omega) (by omega)).mono ?_
      rintro e w2 ⟨rfl, rfl⟩
      have hod : pickN o 2 = 0 ∨ pickN o 2 = 1 := by have := pickN_lt o 2 (by omega); omega
      generalize pickN o 2 = od at *
      go_wp2_with fail
      all_goals
        have hm : (1 : Nat) ≤ min 64 (8 * s.size) + 1 := by omega
        refine (pick_at n _ (min 64 (8 * s.size) + 1) _ (by omega) hm (by omega)).mono ?_
        rintro e w2 ⟨rfl, rfl⟩
        have hn1 := pickN_lt n _ hm
        generalize pickN n (min 64 (8 * s.size) + 1) = nn at *
        have hn64 : nn ≤ 64 := by omega
        have hn8 : nn ≤ 8 * s.size := by omega
        clear hm hn1
        go_wp2_with fail
        refine (pick_at a _ (8 * s.size - nn + 1) _ (by omega) (by omega) (by omega)).mono ?_
        rintro e w2 ⟨rfl, rfl⟩
        have ha1 := pickN_lt a (8 * s.size - nn + 1) (by omega)
        generalize pickN a (8 * s.size - nn + 1) = at_ at *
        have han : at_ + nn ≤ 8 * s.size := by omega
        clear ha1
        have hlen : s.data.toList.length = s.size := data_length s
        have hpl := putV_length s.data.toList od at_ nn v nn
        have hgp := getV_putV s.data.toList od at_ nn v (by omega)
        have hout := fun q h => putV_out s.data.toList od at_ nn v q (by omega) h
        go_wp2_with fail
        refine (BPut_any s at_ nn od v _ hs hn64 han hod hv).mono ?_
        rintro e w2 ⟨rfl, hb2⟩
        generalize putV s.data.toList od at_ nn v nn = T at *
        have HOUT := Lib.hid hout; clear hout
        go_wp2_with fail
        refine (BGet_any (bstr T) at_ nn od _ _ rfl (by rw [bstr_size]; omega) hn64 (by rw [bstr_size]; omega) hod).mono ?_
        rintro e w3 ⟨rfl, rfl⟩
        rw [bstr_data, hgp]
        clear hgp
        have hVv : nn = 64 → v % 2 ^ nn = v := fun h => by rw [h]; exact Nat.mod_eq_of_lt (by omega)
        generalize hV : v % 2 ^ nn = V at *
        have HV := Lib.hid hV; clear hV
        have HVV := Lib.hid hVv; clear hVv
        go_wp2_with fail
        refine (pick_at look _ (8 * s.size) _ (by omega) (by omega) (by omega)).mono ?_
        rintro e w3 ⟨rfl, rfl⟩
        have hlk := pickN_lt look (8 * s.size) (by omega)
        generalize pickN look (8 * s.size) = lk at *
        go_wp2_with fail
        refine (BGet_any s lk 1 od _ _ rfl hs (by omega) (by omega) hod).mono ?_
        rintro e w3 ⟨rfl, rfl⟩
        rw [getV_one]
        go_wp2_with fail
        refine (BGet_any (bstr T) lk 1 od _ _ rfl (by rw [bstr_size]; omega) (by omega) (by rw [bstr_size]; omega) hod).mono ?_
        rintro e w3 ⟨rfl, rfl⟩
        rw [bstr_data, getV_one]
        have hTs : T.length = s.size := by omega
        clear hpl
        have hin : ¬ (at_ ≤ lk ∧ lk < at_ + nn) → bitAt T od lk = bitAt s.data.toList od lk := fun h => HOUT.out lk h
        generalize bitAt T od lk = b1 at *
        generalize bitAt s.data.toList od lk = b0 at *
        have HIN := Lib.hid hin; clear hin
        clear HOUT
        by_cases h64 : nn = 64
        · have hV2 := HVV.out h64
          subst hV2
          have h64' : ((nn : Int) == 64) = true := by simp; omega
          by_cases hl1 : at_ ≤ lk
          · by_cases hl2 : lk < at_ + nn
            · have hl1' : (at_ : Int) ≤ (lk : Int) := by omega
              have hl2' : (lk : Int) < (at_ : Int) + (nn : Int) := by omega
              go_wp2_with fail
              all_goals (go_ret; exact ⟨rfl, hb1.trans (hb2.mono hb1.size)⟩)
            · have hbb := HIN.out (by omega)
              subst hbb
              have hl1' : (at_ : Int) ≤ (lk : Int) := by omega
              have hl2' : (at_ : Int) + (nn : Int) ≤ (lk : Int) := by omega
              go_wp2_with fail
              all_goals (go_ret; exact ⟨rfl, hb1.trans (hb2.mono hb1.size)⟩)
          · have hbb := HIN.out (by omega)
            subst hbb
            have hl1' : (lk : Int) < (at_ : Int) := by omega
            go_wp2_with fail
            all_goals (go_ret; exact ⟨rfl, hb1.trans (hb2.mono hb1.size)⟩)
        · have h64' : ((nn : Int) == 64) = false := by simp; omega
          have h64'' : (nn : Int) < 64 := by omega
          have hbb : at_ ≤ lk ∧ lk < at_ + nn ∨ b1 = b0 := by
            by_cases h : at_ ≤ lk ∧ lk < at_ + nn
            · exact .inl h
            · exact .inr (HIN.out h)
          have hmf := mask_form v nn hv (by omega)
          rw [HV.out] at hmf
          rcases hbb with ⟨hl1, hl2⟩ | rfl
          · have hl1' : (at_ : Int) ≤ (lk : Int) := by omega
            have hl2' : (lk : Int) < (at_ : Int) + (nn : Int) := by omega
            go_wp2_with fail
            all_goals (go_ret; exact ⟨rfl, hb1.trans (hb2.mono hb1.size)⟩)
          · clear hlk
            by_cases hl1 : at_ ≤ lk
            · have hl1' : (at_ : Int) ≤ (lk : Int) := by omega
              by_cases hl2 : lk < at_ + nn
              · have hl2' : (lk : Int) < (at_ : Int) + (nn : Int) := by omega
                go_wp2_with fail
                all_goals (go_ret; exact ⟨rfl, hb1.trans (hb2.mono hb1.size)⟩)
              · have hl2' : (at_ : Int) + (nn : Int) ≤ (lk : Int) := by omega
                go_wp2_with fail
                all_goals (go_ret; exact ⟨rfl, hb1.trans (hb2.mono hb1.size)⟩)
            · have hl1' : (lk : Int) < (at_ : Int) := by omega
              go_wp2_with fail
              all_goals (go_ret; exact ⟨rfl, hb1.trans (hb2.mono hb1.size)⟩)
end Go.Proofs.Ytlpockgofejogaa
