/- The laws' own decimal: a number's digits. -/
import Derived.Test.YtnmbakibiaedhaaDoorReadH
import Derived.Test.YtnmbakibiaedhaaDoorPlainDec
import Derived.Test.YtnmbakibiaedhaaDoorPick
namespace Go.Proofs.YtnmbakibiaedhaaDoor
open Go.RowKit
set_option linter.unusedVariables false
set_option linter.unusedSimpArgs false
set_option maxRecDepth 100000 in
set_option maxHeartbeats 1000000 in
theorem decimal_any (n : Nat) (w : World) (hn : n < 9223372036854775808) :
    Calls Tryd.prog 19 #[.int .i64 (n : Int)] w fun e w' => e = .returned (.string (bstr (Num.dec n))) ∧ Below w.heap.size w w' := by
  go_enter Tryd.func19, Tryd.ntmps19
  go_wp2_with fail
  go_loopw [0, 3] (fun v0 v3 wr => ∃ (j m : Nat) (t : List UInt8), j ≤ 30 ∧ v0 = .int .i64 (m : Int) ∧ v3 = .string (bstr t) ∧ t.length = j ∧ m ≤ n ∧ Hid (Num.DecI n j m t) ∧ Below w.heap.size w wr) (fun v0 v3 wr => (intOf v0).toNat + (match v3 with | .string s => if s.size = 0 then 1 else 0 | _ => 0))
  case atStart => exact ⟨0, n, [], by omega, rfl, rfl, rfl, Nat.le_refl _, Lib.hid (Num.DecI.start n), Below.refl _ _⟩
  case round =>
    obtain ⟨j, m, t, hj, rfl, rfl, hlen, hmn, HD, hb⟩ := hrel
    obtain ⟨r, hr⟩ : ∃ r, r = m % 10 := ⟨_, rfl⟩
    obtain ⟨q, hq⟩ : ∃ q, q = m / 10 := ⟨_, rfl⟩
    have hr10 : r < 10 := by omega
    have hqm : q ≤ m := by omega
    have hm9 : (m : Int) % 10 = (r : Int) := by omega
    have hm10 : (m : Int) / 10 = (q : Int) := by omega
    have hstep := fun hm => HD.out.step hn hlen hm
    rw [← hr, ← hq] at hstep
    have HS := Lib.hid hstep; clear hstep
    have hend : m = 0 → t ≠ [] → t = Num.dec n := fun h0 ht => by subst h0; exact HD.out.done hn hlen ht
    have HE := Lib.hid hend; clear hend
    have HQ := Lib.hid hq; clear hq hr
    have hu8 : IntKind.u8.wrap (48 + (r : Int)) = 48 + (r : Int) := by rw [IntKind.wrap_u8]; omega
    have hd : (UInt8.ofNat (48 + r)).toNat = 48 + r := by simp; omega
    have hrow := RowAt.new wr 5 #[.int .u8 (48 + (r : Int))]
    have hbv : (#[.int .u8 (48 + (r : Int))] : Array Value).toList = bvals [UInt8.ofNat (48 + r)] := by
      show [Value.int .u8 (48 + (r : Int))] = [Value.int .u8 (((UInt8.ofNat (48 + r)).toNat : Nat) : Int)]
      rw [hd]; rfl
    rw [hbv] at hrow
    have hconv := run_string_of (P := Tryd.prog) 95 5 9 (by kernel_rfl) (by kernel_rfl) (by kernel_rfl) hrow 1 1 rfl
    clear hrow hbv hd
    generalize UInt8.ofNat (48 + r) = d at *
    have hbA := hb.alloc hb.size (.cells #[.int .u8 (48 + (r : Int))] 5)
    have HBA := Lib.hid hbA; clear hbA
    cases t with
    | nil =>
      by_cases h0 : 0 < m
      all_goals
        have hst := HS.out (.inr rfl)
        have HST := Lib.hid hst; clear hst
        go_wp2_with fail
        go_roundw
        case rel => exact ⟨j + 1, q, [d], HST.out.2, rfl, rfl, by simp at hlen ⊢; omega, by omega, Lib.hid HST.out.1, HBA.out⟩
        case measure =>
          have := HQ.out
          simp [intOf, bstr, ByteArray.size]
          omega
    | cons c t =>
      have hne : (bstr (c :: t)).toList.isEmpty = false := by rw [bstr_toList]; rfl
      by_cases h0 : 0 < m
      · have hst := HS.out (.inl h0)
        have HST := Lib.hid hst; clear hst
        have hlen2 : ¬ 9223372036854775807 < 1 + (t.length + 1) := by simp at hlen; omega
        go_wp2_with fail
        go_roundw
        case rel => exact ⟨j + 1, q, d :: c :: t, HST.out.2, rfl, rfl, by simp at hlen ⊢; omega, by omega, Lib.hid HST.out.1, HBA.out⟩
        case measure =>
          have := HQ.out
          simp [intOf, bstr, ByteArray.size]
          omega
      · go_wp2_with fail
        go_ret
        exact ⟨ret_str (congrArg bstr (HE.out (by omega) (by simp))), hb⟩
end Go.Proofs.YtnmbakibiaedhaaDoor
