/- Contracts of package bits: Count, Turn. -/
import Derived.Test.YtlpockgofejogaaBitsA
import Derived.Test.YtlpockgofejogaaPlainBits2
namespace Go.Proofs.Ytlpockgofejogaa
open Go.RowKit
set_option linter.unusedVariables false

set_option maxRecDepth 100000 in
theorem Count_any (s : ByteArray) (w : World) (hs : s.size ≤ 140737488351232) :
    Calls Try.prog 28 #[.string s] w fun e w' => e = .returned (.int .i64 (popV s.data.toList : Nat)) ∧ w = w' := by
  have hlen : s.data.toList.length = s.size := data_length s
  go_enter Try.func28, Try.ntmps28
  generalize hl : s.data.toList = l at *
  have HL := Lib.hid hl; clear hl
  have hpl := popV_le l
  go_wp2_with fail
  go_loop [3, 8] (fun n i => ∃ k : Nat, k ≤ s.size ∧ i = .int .i64 k ∧ n = .int .i64 (popV (l.take k) : Nat)) (fun n i => s.size - (intOf i).toNat)
  case atStart => exact ⟨0, by omega, rfl, rfl⟩
  case round =>
    obtain ⟨k, hk, rfl, rfl⟩ := hrel
    have hpk := popV_le (l.take k)
    have htk : (l.take k).length = k := by rw [List.length_take]; omega
    generalize hP : popV (l.take k) = p at *
    have HP := Lib.hid hP; clear hP
    by_cases hlt : k < s.size
    · have hsn := popV_snoc l k (by omega)
      have HSN := Lib.hid hsn; clear hsn
      have hx : s[k].toNat < 256 := UInt8.toNat_lt _
      have hxe : (l.getD k 0).toNat = s[k].toNat := by rw [byteAt s k hlt, HL.out]
      generalize hX : s[k].toNat = x at *
      have HX := Lib.hid hX; clear hX
      have HXE := Lib.hid hxe; clear hxe
      have hp8 := pop8_le x
      go_wp2_with fail
      go_loop [3, 5] (fun q b => ∃ B Q : Nat, B < 256 ∧ Q + pop8 B = p + pop8 x ∧ b = .int .u8 (B : Nat) ∧ q = .int .i64 (Q : Nat)) (fun q b => (intOf b).toNat)
      case atStart => exact ⟨x, p, hx, rfl, by rw [HX.out], rfl⟩
      case round =>
        obtain ⟨B, Q, hB, hQ, rfl, rfl⟩ := hrel
        by_cases h0 : 0 < B
        · obtain ⟨hs1, hs2⟩ := pop_step B hB h0
          have hpa := pop_and B hB h0
          generalize hB2 : B &&& (B - 1) = B2 at *
          have HB2 := Lib.hid hB2; clear hB2
          have hp9 := pop8_le B
          have HQ := Lib.hid hQ
          have hQb : Q ≤ p + 8 := by omega
          clear hQ
          have HS2 := Lib.hid hs2; clear hs2
          go_wp2_with fail
          go_round
          case rel => exact ⟨B2, Q + 1, by omega, by have := HQ.out; have := HS2.out; omega, rfl, by go_num⟩
          case measure => simp [intOf]; omega
        · obtain rfl : B = 0 := by omega
          have hQ0 : Q = p + pop8 x := by simpa [pop8] using hQ
          clear hQ
          subst hQ0
          go_wp2_with fail
          go_round
          case rel => exact ⟨k + 1, by omega, by go_num, by rw [HSN.out, HP.out, HXE.out]⟩
          case measure => simp [intOf]; omega
    · obtain rfl : k = s.size := by omega
      go_wp2_with fail
      go_ret
      exact ⟨by rw [← HP.out, List.take_of_length_le (by omega)]; rfl, rfl⟩
end Go.Proofs.Ytlpockgofejogaa
