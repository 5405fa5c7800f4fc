/- The law SuffixFinds, walked. -/
import Derived.Test.YtenhblpegobbjaaSufI
import Derived.Test.YtenhblpegobbjaaSufB
import Derived.Test.YtenhblpegobbjaaSlEqual
import Derived.Test.YtenhblpegobbjaaSufF
import Derived.Test.YtenhblpegobbjaaFindDf
import Derived.Test.YtenhblpegobbjaaPlainSuffix3
namespace Go.Proofs.Ytenhblpegobbjaa
open Go.RowKit
set_option linter.unusedVariables false
set_option linter.unusedSimpArgs false
open Suf
theorem cmp_isL : CmpIs := fun V kb nb cb rb fb k s R h hf x y hx hy => cmp_any V kb nb cb rb fb k s R h hf x y hx hy
theorem parts_int {l : List UInt8} {A C : List Nat} (hS : Sorted l A) (hC : Commons l A C) : ((l.length * (l.length + 1) / 2 : Nat) : Int) - ((C.sum : Nat) : Int) = (((parts l A C).length : Nat) : Int) := by
  have := parts_length l hS hC
  omega
theorem parts_few {l : List UInt8} {A C : List Nat} (hS : Sorted l A) (hC : Commons l A C) (h : l.length ≤ 300) : (parts l A C).length ≤ 100000 := by
  have := parts_length l hS hC
  have h2 : l.length * (l.length + 1) ≤ 300 * 301 := Nat.mul_le_mul h (by omega)
  omega
set_option maxRecDepth 100000 in
set_option maxHeartbeats 2000000 in
theorem SuffixFinds_walk (s p : ByteArray) (cn : Nat) (hs : s.size ≤ 140737488351232) (hp : p.size ≤ 140737488351232) (hcn : cn ≤ 255) (w : World) :
    Calls Try.prog 11 #[.string s, .string p, .int .u8 (cn : Nat)] w fun e w' => e = .returned (.bool true) ∧ Below w.heap.size w w' := by
  obtain ⟨l, rfl⟩ : ∃ l, s = bstr l := ⟨_, eq_bstr s⟩
  obtain ⟨q, rfl⟩ : ∃ q, p = bstr q := ⟨_, eq_bstr p⟩
  obtain ⟨c, rfl⟩ : ∃ c : UInt8, cn = c.toNat := ⟨UInt8.ofNat cn, by simp [UInt8.toNat_ofNat']; omega⟩
  rw [bstr_size] at hs hp
  go_enter Try.func11, Try.ntmps11
  go_wp2_with fail
  refine (sorted_any cmp_isL _).mono ?_
  rintro e w1 ⟨rfl, hb1⟩
  have HB1 := Lib.hid hb1
  clear hb1
  go_wp2_with fail
  refine (found_any _).mono ?_
  rintro e w2 ⟨rfl, hb2⟩
  have HB2 := Lib.hid (HB1.out.trans (hb2.mono HB1.out.size))
  clear hb2 HB1
  by_cases h0 : q = []
  · subst h0
    go_wp2_with fail
    go_ret
    exact ⟨rfl, HB2.out⟩
  have hqe : (q == []) = false := by rw [beq_eq_false_iff_ne]; exact h0
  have hqe2 : q.isEmpty = false := by cases q with | nil => exact absurd rfl h0 | cons a b => rfl
  have H0 := Lib.hid h0
  clear h0
  by_cases h1 : 60 < q.length
  · have d1 : decide ((60 : Int) < (q.length : Int)) = true := decide_eq_true (by omega)
    have d1n : decide (60 < q.length) = true := decide_eq_true h1
    clear h1
    go_wp2_with fail
    go_ret
    exact ⟨rfl, HB2.out⟩
  have d1 : decide ((60 : Int) < (q.length : Int)) = false := decide_eq_false (by omega)
  have d1n : decide (60 < q.length) = false := decide_eq_false h1
  by_cases h2 : 200 < l.length
  · have d2 : decide ((200 : Int) < (l.length : Int)) = true := decide_eq_true (by omega)
    have d2n : decide (200 < l.length) = true := decide_eq_true h2
    clear h2
    go_wp2_with fail
    go_ret
    exact ⟨rfl, HB2.out⟩
  have d2 : decide ((200 : Int) < (l.length : Int)) = false := decide_eq_false (by omega)
  have d2n : decide (200 < l.length) = false := decide_eq_false h2
  have h60 : q.length ≤ 60 := by omega
  have h200 : l.length ≤ 200 := by omega
  clear h1 h2
  go_wp2_with fail
  refine (Find_any cmp_isL l q _ (by omega) H0.out).mono ?_
  rintro e w3 ⟨a, ca, L, rfl, hL1, hL2, hL3, hb3⟩
  have hLo : L = Kmp.occ l q l.length := by
    refine Kmp.sorted_ext hL1 (Kmp.occ_sorted _ _ _) fun i => ?_
    have hq1 : 1 ≤ q.length := by cases q with | nil => exact absurd rfl H0.out | cons => simp
    rw [hL2, Kmp.mem_occ_at _ _ hq1]
    constructor
    · exact fun h => h.2
    · intro h
      refine ⟨?_, h⟩
      have := List.IsPrefix.length_le h
      rw [List.length_drop] at this
      omega
  have HLO := Lib.hid hLo; have HR3 := Lib.hid hL3; have HB3 := Lib.hid (HB2.out.trans (hb3.mono HB2.out.size))
  clear hLo hL1 hL2 hL3 hb3 HB2
  go_wp2_with fail
  refine (All_any (bstr l) (bstr q) _ (by rw [bstr_size]; omega) (by rw [bstr_size]; cases q with | nil => exact absurd rfl H0.out | cons => simp) (by rw [bstr_size]; omega)).mono ?_
  rintro e w4 ⟨a4, c4, rfl, ho4, hb4⟩
  have e4 : Kmp.occ (bstr l).data.toList (bstr q).data.toList (bstr l).size = L := by rw [HLO.out, bstr_size]; rfl
  rw [e4] at ho4 ⊢
  have HO3 := Lib.hid (HR3.out.below hb4 (Nat.le_refl _)); have HO4 := Lib.hid ho4; have HB4 := Lib.hid (HB3.out.trans (hb4.mono HB3.out.size))
  clear ho4 hb4 HR3 HB3 e4
  go_wp2_with fail
  refine (Parts_any cmp_isL l w4 (by omega)).mono ?_
  rintro e w5 ⟨A, C, rfl, hS, hC, hb5⟩
  have hpi := parts_int hS hC
  have hpf := parts_few hS hC (by omega)
  obtain ⟨n, hn⟩ : ∃ n, n = (parts l A C).length := ⟨_, rfl⟩
  rw [hpi, ← hn]
  rw [← hn] at hpf
  have HN := Lib.hid hn; have HS := Lib.hid hS; have HC := Lib.hid hC
  have HO3 := Lib.hid (HO3.out.below hb5 (Nat.le_refl _)); have HO4 := Lib.hid (HO4.out.below hb5 (Nat.le_refl _)); have HB5 := Lib.hid (HB4.out.trans (hb5.mono HB4.out.size))
  clear hpi hn hS hC hb5 HB4
  have hrow := RowAt.new w5 5 #[.int .u8 (c.toNat : Nat)]
  have hconv := run_string_of (l := [c]) (P := Try.prog) 79 5 9 (by kernel_rfl) (by kernel_rfl) (by kernel_rfl) hrow 1 1 rfl
  clear hrow
  go_wp2_with fail
  refine (Parts_any cmp_isL (l ++ [c]) _ (by simp; omega)).mono ?_
  rintro e w6 ⟨A2, C2, rfl, hS2, hC2, hb6⟩
  have hpi := parts_int hS2 hC2
  have hpf2 := parts_few hS2 hC2 (by simp; omega)
  have hmo := parts_more l c HS.out HC.out hS2 hC2
  obtain ⟨m, hm⟩ : ∃ m, m = (parts (l ++ [c]) A2 C2).length := ⟨_, rfl⟩
  rw [hpi, ← hm]
  rw [← hm] at hpf2 hmo
  rw [← HN.out] at hmo
  obtain ⟨hm1, hm2⟩ := hmo
  have hb6' : Below w5.heap.size w5 w6 := ((Below.refl _ w5).alloc (Nat.le_refl _) _).trans (hb6.mono (by simp))
  have HO3 := Lib.hid (HO3.out.below hb6' (Nat.le_refl _)); have HO4 := Lib.hid (HO4.out.below hb6' (Nat.le_refl _)); have HB6 := Lib.hid (HB5.out.trans (hb6'.mono HB5.out.size))
  clear hpi hm hS2 hC2 hb6 hb6' HB5 hconv
  have d3 : decide (IntKind.i64.wrap ((n : Int) - 1) < (m : Int)) = true := by rw [decide_eq_true_eq, IntKind.wrap_i64]; omega
  have d3b : decide ((n : Int) - 1 < (m : Int)) = true := by rw [decide_eq_true_eq]; omega
  have d4 : decide ((m : Int) ≤ (n : Int) + (l.length : Int) + 1) = true := by rw [decide_eq_true_eq]; omega
  have d5 : decide ((n : Int) < (m : Int)) = true := by rw [decide_eq_true_eq]; omega
  have d5n : decide (n < m) = true := by rw [decide_eq_true_eq]; omega
  have HEQ : Hid (∀ k, Calls Try.prog 33 #[.slice a L.length ca, .slice a4 L.length c4] (w6.drewN k) fun e w' => e = .returned (.bool true) ∧ ∃ k2, w' = (w6.drewN k).drewN k2) := Lib.hid fun k => by
    refine (Equal_yes _ _ _ _ _ _ (L.map fun i : Nat => (i : Int)) _ (by simp) rfl ?_ (HO3.out.readsI.drewN k) (HO4.out.readsI.drewN k))
    have := HO3.out.len
    have h2 := Kmp.occ_length l q l.length
    rw [← HLO.out] at h2
    omega
  go_wp2_with fail
  refine (HEQ.out 0).mono ?_
  rintro e w7 ⟨rfl, k2, rfl⟩
  go_wp2_with fail
  go_ret
  exact ⟨rfl, bdrewN HB6.out _⟩
end Go.Proofs.Ytenhblpegobbjaa
