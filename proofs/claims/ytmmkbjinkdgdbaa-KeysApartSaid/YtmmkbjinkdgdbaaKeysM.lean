/- Contracts: keys.Motion, and the laws' own decimal. -/
import Derived.Test.YtmmkbjinkdgdbaaKeysG
import Derived.Test.YtmmkbjinkdgdbaaPlainKeys3
import Derived.Test.YtmmkbjinkdgdbaaInfo
import Derived.Test.YtmmkbjinkdgdbaaPick
namespace Go.Proofs.Ytmmkbjinkdgdbaa
open Go.RowKit
set_option linter.unusedVariables false
set_option linter.unusedSimpArgs false
set_option maxRecDepth 100000 in
theorem Motion_any (reg n move : Nat) (op : UInt8) (arg : ByteArray) (w : World) (hm : move < 256) :
    Calls Try.prog 28 #[.agg (cmd5 reg n op.toNat move arg).toArray] w fun e w' => e = .returned (.bool (decide (move = 0) && Keys.goes op)) ∧ Below w.heap.size w w' := by
  have h1 := fun w => has_any ⟨#[104, 108, 106, 107, 48, 36, 103, 71, 119, 98, 110, 78, 91, 93]⟩ op w
  have h2 := fun w => has_any ⟨#[39, 102]⟩ op w
  have hg : Keys.goes op = ((⟨#[104, 108, 106, 107, 48, 36, 103, 71, 119, 98, 110, 78, 91, 93]⟩ : ByteArray).data.toList.contains op || (⟨#[39, 102]⟩ : ByteArray).data.toList.contains op) := rfl
  generalize (⟨#[104, 108, 106, 107, 48, 36, 103, 71, 119, 98, 110, 78, 91, 93]⟩ : ByteArray).data.toList.contains op = x at *
  generalize (⟨#[39, 102]⟩ : ByteArray).data.toList.contains op = y at *
  rw [hg]
  clear hg
  have H1 := Lib.hid h1; clear h1
  have H2 := Lib.hid h2; clear h2
  change Calls Try.prog 28 #[.agg #[.int .u8 (reg : Int), .int .i64 (n : Int), .int .u8 (op.toNat : Int), .int .u8 (move : Int), .string arg]] w _
  by_cases h0 : move = 0
  · subst h0
    cases x
    · go_enter Try.func28, Try.ntmps28
      go_wp2_with fail
      refine (H1.out _).mono ?_
      rintro e w1 ⟨rfl, rfl⟩
      go_wp2_with fail
      refine (H2.out _).mono ?_
      rintro e w1 ⟨rfl, rfl⟩
      go_wp2_with fail
      go_ret
      exact ⟨rfl, (Below.refl _ w).alloc (Nat.le_refl _) _⟩
    · go_enter Try.func28, Try.ntmps28
      go_wp2_with fail
      refine (H1.out _).mono ?_
      rintro e w1 ⟨rfl, rfl⟩
      go_wp2_with fail
      go_ret
      exact ⟨rfl, (Below.refl _ w).alloc (Nat.le_refl _) _⟩
  · have h0' : ((move : Int) == 0) = false := by rw [beq_eq_false_iff_ne]; omega
    have h0d : decide (move = 0) = false := by simp [h0]
    rw [h0d]
    clear h0d h0
    go_enter Try.func28, Try.ntmps28
    go_wp2_with fail
    go_ret
    exact ⟨rfl, (Below.refl _ w).alloc (Nat.le_refl _) _⟩
namespace Keys
/-- a number as digits -/
def decL (n : Nat) : List UInt8 := if n < 10 then [UInt8.ofNat (48 + n)] else decL (n / 10) ++ [UInt8.ofNat (48 + n % 10)]
theorem decL_step (n : Nat) (h : 10 ≤ n) : decL n = decL (n / 10) ++ [UInt8.ofNat (48 + n % 10)] := by
  rw [decL, if_neg (by omega)]
theorem decL_small (n : Nat) (h : n < 10) : decL n = [UInt8.ofNat (48 + n)] := by rw [decL, if_pos h]
theorem decL_dec (n : Nat) (h : n < 100) : decL n = dec n := by
  unfold dec
  by_cases h1 : n < 10
  · rw [decL_small n h1, if_pos h1]
  · rw [decL_step n (by omega), if_neg h1, decL_small _ (by omega)]; rfl
/-- where decimal stands: what is left of the number, and what is written -/
def DecAt (n m : Nat) (t : List UInt8) : Prop := (0 < m → decL m ++ t = decL n) ∧ (m = 0 → t = decL n ∨ (t = [] ∧ n = 0))
theorem DecAt.start (n : Nat) : DecAt n n [] := ⟨fun _ => by simp, fun h => .inr ⟨rfl, h⟩⟩
theorem DecAt.step {n m : Nat} {t : List UInt8} (h : DecAt n m t) (hm : 0 < m ∨ t = []) : DecAt n (m / 10) (UInt8.ofNat (48 + m % 10) :: t) := by
  rcases Nat.eq_zero_or_pos m with h0 | h0
  · subst h0
    have ht : t = [] := by simpa using hm
    subst ht
    rcases h.2 rfl with h1 | h1
    · exfalso
      have : (decL n).length = 0 := by rw [← h1]; rfl
      rw [decL] at this
      split at this <;> simp at this
    · obtain ⟨_, rfl⟩ := h1
      exact ⟨fun h => absurd h (by simp), fun _ => .inl (by rw [decL_small 0 (by decide)])⟩
  · have h1 := h.1 h0
    constructor
    · intro h2
      rw [decL_step m (by omega), List.append_assoc] at h1
      exact h1
    · intro h2
      left
      rw [decL_small m (by omega)] at h1
      rw [← h1, Nat.mod_eq_of_lt (by omega)]
      rfl
theorem DecAt.done {n : Nat} {t : List UInt8} (h : DecAt n 0 t) (ht : t ≠ []) : t = decL n := by
  rcases h.2 rfl with h | h
  · exact h
  · exact absurd h.1 ht
end Keys
set_option maxRecDepth 100000 in
theorem decimal_any (n : Nat) (w : World) (hn : n < 9223372036854775808) :
    Calls Try.prog 27 #[.int .i64 (n : Int)] w fun e w' => e = .returned (.string (bstr (Keys.decL n))) ∧ Below w.heap.size w w' := by
  go_enter Try.func27, Try.ntmps27
  go_wp2_with fail
  go_loopw [0, 3] (fun v0 v3 wr => ∃ (m : Nat) (t : List UInt8), m ≤ n ∧ t.length + m ≤ max n 1 ∧ v0 = .int .i64 (m : Int) ∧ v3 = .string (bstr t) ∧ Hid (Keys.DecAt n m t) ∧ Below w.heap.size w wr) (fun v0 v3 wr => (intOf v0).toNat + (match v3 with | .string s => if s.size = 0 then 1 else 0 | _ => 0))
  case atStart => exact ⟨n, [], Nat.le_refl _, by simp; omega, rfl, rfl, Lib.hid (Keys.DecAt.start n), Below.refl _ _⟩
  case round =>
    obtain ⟨m, t, hmn, hlen, rfl, rfl, HD, hb⟩ := hrel
    obtain ⟨r, hr⟩ : ∃ r, r = m % 10 := ⟨_, rfl⟩
    obtain ⟨q, hq⟩ : ∃ q, q = m / 10 := ⟨_, rfl⟩
    have hr10 : r < 10 := by omega
    have hqm : q ≤ m := by omega
    have hm9 : (m : Int) % 10 = (r : Int) := by omega
    have hm10 : (m : Int) / 10 = (q : Int) := by omega
    have hstep := fun hm => HD.out.step (n := n) (m := m) (t := t) hm
    rw [← hr, ← hq] at hstep
    have HS := Lib.hid hstep; clear hstep
    have HQ := Lib.hid hq; clear hq hr
    have hu8 : IntKind.u8.wrap (48 + (r : Int)) = 48 + (r : Int) := by rw [IntKind.wrap_u8]; omega
    have hd : (UInt8.ofNat (48 + r)).toNat = 48 + r := Keys.toNat_digit r hr10
    have hrow := RowAt.new wr 5 #[.int .u8 (48 + (r : Int))]
    have hbv : (#[.int .u8 (48 + (r : Int))] : Array Value).toList = bvals [UInt8.ofNat (48 + r)] := by
      show [Value.int .u8 (48 + (r : Int))] = [Value.int .u8 (((UInt8.ofNat (48 + r)).toNat : Nat) : Int)]
      rw [hd]; rfl
    rw [hbv] at hrow
    have hconv := run_string_of (P := Try.prog) 37 5 9 (by kernel_rfl) (by kernel_rfl) (by kernel_rfl) hrow 1 1 rfl
    clear hrow hbv hd
    generalize UInt8.ofNat (48 + r) = d at *
    have hbA := hb.alloc hb.size (.cells #[.int .u8 (48 + (r : Int))] 5)
    have HBA := Lib.hid hbA; clear hbA
    cases t with
    | nil =>
      by_cases h0 : 0 < m
      all_goals
        go_wp2_with fail
        go_roundw
        case rel => exact ⟨q, [d], by omega, by have := HQ.out; simp; omega, rfl, rfl, Lib.hid (HS.out (.inr rfl)), HBA.out⟩
        case measure =>
          have := HQ.out
          simp [intOf, bstr, ByteArray.size]
          omega
    | cons c t =>
      have hne : (bstr (c :: t)).toList.isEmpty = false := by rw [bstr_toList]; rfl
      by_cases h0 : 0 < m
      · have hlen2 : ¬ 9223372036854775807 < 1 + (t.length + 1) := by simp at hlen; omega
        go_wp2_with fail
        go_roundw
        case rel => exact ⟨q, d :: c :: t, by omega, by have := HQ.out; simp at hlen ⊢; omega, rfl, rfl, Lib.hid (HS.out (.inl h0)), HBA.out⟩
        case measure =>
          have := HQ.out
          simp [intOf, bstr, ByteArray.size]
          omega
      · go_wp2_with fail
        go_ret
        obtain rfl : m = 0 := by omega
        exact ⟨ret_str (congrArg bstr (HD.out.done (by simp))), hb⟩
end Go.Proofs.Ytmmkbjinkdgdbaa
