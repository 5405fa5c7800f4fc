/- Contracts of Adler and Fletcher; the fact 'summed'. -/
import Derived.Test.YtdjddiajnalffaaSumsC
import Derived.Test.YtdjddiajnalffaaPlainSums2
namespace Go.Proofs.Ytdjddiajnalffaa
open Go.RowKit
set_option linter.unusedVariables false
set_option linter.unusedSimpArgs false
set_option maxRecDepth 100000 in
theorem Adler_any (s : ByteArray) (w : World) (hs : s.size ≤ 140737488351232) :
    Calls Try.prog 22 #[.string s] w fun e w' => e = .returned (.int .u32 (adN 65521 1 16 s.data.toList : Nat)) ∧ w = w' := by
  have hlen : s.data.toList.length = s.size := data_length s
  generalize hl : s.data.toList = l at *
  have HL := Lib.hid hl; clear hl
  go_enter Try.func22, Try.ntmps22
  go_wp2_with fail
  go_loop [3, 4, 8] (fun a b i => ∃ k : Nat, k ≤ s.size ∧ i = .int .i64 k ∧ a = .int .u32 (adA 65521 1 (l.take k) : Nat) ∧ b = .int .u32 (adB 65521 1 0 (l.take k) : Nat)) (fun a b i => s.size - (intOf i).toNat)
  case atStart => exact ⟨0, by omega, rfl, rfl, rfl⟩
  case round =>
    obtain ⟨k, hk, rfl, rfl, rfl⟩ := hrel
    have hA := adA_lt 65521 1 (l.take k) (by decide)
    have hB := adB_lt 65521 (l.take k) 1 0 (by decide)
    by_cases hlt : k < s.size
    · obtain ⟨hs1, hs2⟩ := ad_snoc 65521 1 0 l k (by omega)
      generalize adA 65521 1 (l.take k) = A at *
      generalize adB 65521 1 0 (l.take k) = B at *
      have hb8 : (l.getD k 0).toNat < 256 := UInt8.toNat_lt _
      have hbe : s[k].toNat = (l.getD k 0).toNat := by rw [byteAt s k hlt, HL.out]
      generalize (l.getD k 0).toNat = c at *
      have HBE := Lib.hid hbe; clear hbe
      have H1 := Lib.hid hs1; have H2 := Lib.hid hs2
      clear hs1 hs2
      have hsk : s[k].toNat < 256 := UInt8.toNat_lt _
      go_wp2_with fail
      go_round
      case rel => exact ⟨k + 1, by omega, by go_num, by rw [H1.out, HBE.out]; rfl, by rw [H2.out, HBE.out]; rfl⟩
      case measure => simp [intOf]; omega
    · obtain rfl : k = s.size := by omega
      have htk : l.take s.size = l := by rw [← hlen]; exact List.take_length
      rw [htk] at hA hB ⊢
      have ho := ad_out (adA 65521 1 l) (adB 65521 1 0 l) 16 (by omega) (by omega) (by decide)
      have hadn : adN 65521 1 16 l = adB 65521 1 0 l * 2 ^ 16 + adA 65521 1 l := rfl
      generalize hAe : adA 65521 1 l = A at *
      generalize hBe : adB 65521 1 0 l = B at *
      have HAE := Lib.hid hAe; have HBE := Lib.hid hBe; have HN := Lib.hid hadn
      clear hAe hBe hadn
      rw [IntWalk.u32_in _ ⟨by omega, by omega⟩] at ho
      simp only [Int.reducePow] at ho
      have HO := Lib.hid ho; clear ho
      go_wp2_with fail
      go_ret
      refine ⟨ret_int ?_, rfl⟩
      rw [HN.out, ← HO.out]
set_option maxRecDepth 100000 in
theorem Fletcher_any (s : ByteArray) (w : World) (hs : s.size ≤ 140737488351232) :
    Calls Try.prog 23 #[.string s] w fun e w' => e = .returned (.int .u32 (adN 255 0 8 s.data.toList : Nat)) ∧ w = w' := by
  have hlen : s.data.toList.length = s.size := data_length s
  generalize hl : s.data.toList = l at *
  have HL := Lib.hid hl; clear hl
  go_enter Try.func23, Try.ntmps23
  go_wp2_with fail
  go_loop [3, 4, 8] (fun a b i => ∃ k : Nat, k ≤ s.size ∧ i = .int .i64 k ∧ a = .int .u32 (adA 255 0 (l.take k) : Nat) ∧ b = .int .u32 (adB 255 0 0 (l.take k) : Nat)) (fun a b i => s.size - (intOf i).toNat)
  case atStart => exact ⟨0, by omega, rfl, rfl, rfl⟩
  case round =>
    obtain ⟨k, hk, rfl, rfl, rfl⟩ := hrel
    have hA := adA_lt 255 0 (l.take k) (by decide)
    have hB := adB_lt 255 (l.take k) 0 0 (by decide)
    by_cases hlt : k < s.size
    · obtain ⟨hs1, hs2⟩ := ad_snoc 255 0 0 l k (by omega)
      generalize adA 255 0 (l.take k) = A at *
      generalize adB 255 0 0 (l.take k) = B at *
      have hb8 : (l.getD k 0).toNat < 256 := UInt8.toNat_lt _
      have hbe : s[k].toNat = (l.getD k 0).toNat := by rw [byteAt s k hlt, HL.out]
      generalize (l.getD k 0).toNat = c at *
      have HBE := Lib.hid hbe; clear hbe
      have H1 := Lib.hid hs1; have H2 := Lib.hid hs2
      clear hs1 hs2
      have hsk : s[k].toNat < 256 := UInt8.toNat_lt _
      go_wp2_with fail
      go_round
      case rel => exact ⟨k + 1, by omega, by go_num, by rw [H1.out, HBE.out]; rfl, by rw [H2.out, HBE.out]; rfl⟩
      case measure => simp [intOf]; omega
    · obtain rfl : k = s.size := by omega
      have htk : l.take s.size = l := by rw [← hlen]; exact List.take_length
      rw [htk] at hA hB ⊢
      have ho := ad_out (adA 255 0 l) (adB 255 0 0 l) 8 (by omega) (by omega) (by decide)
      have hadn : adN 255 0 8 l = adB 255 0 0 l * 2 ^ 8 + adA 255 0 l := rfl
      generalize hAe : adA 255 0 l = A at *
      generalize hBe : adB 255 0 0 l = B at *
      have HAE := Lib.hid hAe; have HBE := Lib.hid hBe; have HN := Lib.hid hadn
      clear hAe hBe hadn
      rw [IntWalk.u32_in _ ⟨by omega, by omega⟩] at ho
      simp only [Int.reducePow] at ho
      have HO := Lib.hid ho; clear ho
      go_wp2_with fail
      go_ret
      refine ⟨ret_int ?_, rfl⟩
      rw [HN.out, ← HO.out]

theorem sfact1 : ofN crcP [49, 50, 51, 52, 53, 54, 55, 56, 57] = 3421780262 := by decide +kernel
theorem sfact2 : adN 65521 1 16 [87, 105, 107, 105, 112, 101, 100, 105, 97] = 300286872 := by decide +kernel
theorem sfact3 : adN 255 0 8 [97, 98, 99, 100, 101] = 51440 := by decide +kernel
set_option maxRecDepth 100000 in
theorem summed_any (w : World) : Calls Try.prog 15 #[] w fun e w' => e = .returned (.bool true) ∧ Below w.heap.size w w' := by
  go_enter Try.func15, Try.ntmps15
  go_wp2_with fail
  refine (crc_any _).mono ?_
  rintro e w1 ⟨rfl, hb1⟩
  go_wp2_with fail
  refine (Of_any crcP (bstr [49, 50, 51, 52, 53, 54, 55, 56, 57]) _ crcP_ok (by decide)).mono ?_
  rintro e w2 ⟨rfl, hb2⟩
  rw [bstr_data, sfact1]
  go_wp2_with fail
  refine (Crc_any (bstr [49, 50, 51, 52, 53, 54, 55, 56, 57]) _ (by decide)).mono ?_
  rintro e w3 ⟨rfl, hb3⟩
  rw [bstr_data, sfact1]
  go_wp2_with fail
  refine (Adler_any (bstr [87, 105, 107, 105, 112, 101, 100, 105, 97]) _ (by decide)).mono ?_
  rintro e w4 ⟨rfl, rfl⟩
  rw [bstr_data, sfact2]
  go_wp2_with fail
  refine (Fletcher_any (bstr [97, 98, 99, 100, 101]) _ (by decide)).mono ?_
  rintro e w4 ⟨rfl, rfl⟩
  rw [bstr_data, sfact3]
  go_wp2_with fail
  go_ret
  have c2 := hb1.trans (hb2.mono hb1.size)
  exact ⟨rfl, c2.trans (hb3.mono c2.size)⟩
end Go.Proofs.Ytdjddiajnalffaa
