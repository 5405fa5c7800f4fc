/- deepest. -/
import Derived.Test.YtenhblpegobbjaaPieceI
namespace Go.Proofs.Ytenhblpegobbjaa
open Go.RowKit Go.Shelf
open Piece
set_option linter.unusedVariables false
set_option linter.unusedSimpArgs false
theorem pow23 {k : Nat} (h : 2 ^ k < 2602 * 2602) : k ≤ 22 := by
  rcases Nat.lt_or_ge 22 k with h1 | h1
  · have : 2 ^ 23 ≤ 2 ^ k := Nat.pow_le_pow_right (by decide) h1
    have e : 2 ^ 23 = 8388608 := by decide
    omega
  · exact h1
set_option maxRecDepth 100000 in
theorem deepest_any (n h : Nat) (w : World) (hn : n ≤ 2600) (hh : 2 ^ h ≤ (n + 1) * (n + 1)) :
    Calls Try.prog 20 #[.int .i64 n] w fun e w' => ∃ d : Nat, e = .returned (.int .i64 d) ∧ h ≤ d ∧ d ≤ 63 ∧ w = w' := by
  have hb : (n + 2) * (n + 2) ≤ 2602 * 2602 := Nat.mul_le_mul (by omega) (by omega)
  have hb1 : (n + 1) * (n + 1) ≤ (n + 2) * (n + 2) := Nat.mul_le_mul (by omega) (by omega)
  have e2 : ((n : Int) + 2) * ((n : Int) + 2) = (((n + 2) * (n + 2) : Nat) : Int) := by push_cast; rfl
  obtain ⟨Z, hZ⟩ : ∃ Z, Z = (n + 2) * (n + 2) := ⟨_, rfl⟩
  rw [← hZ] at e2 hb hb1
  have HZ := Lib.hid hZ
  clear hZ
  have hfin : ∀ k, ¬ 2 ^ k < Z → h ≤ k := by
    intro k hk
    rcases Nat.lt_or_ge k h with h1 | h1
    · exfalso
      have := Nat.pow_le_pow_right (n := 2) (by decide) (Nat.le_of_lt h1)
      have h3 : 2 ^ k < 2 ^ h := Nat.pow_lt_pow_right (by decide) h1
      omega
    · exact h1
  have HF := Lib.hid hfin; clear hfin hb1 hh
  go_enter Try.func20, Try.ntmps20
  go_wp2_with fail
  go_loop [3] (fun v => ∃ k : Nat, k ≤ 23 ∧ v = .int .i64 k) (fun v => 23 - (intOf v).toNat)
  case atStart => exact ⟨0, by omega, rfl⟩
  case round =>
    obtain ⟨k, hk, rfl⟩ := hrel
    have hp : 2 ^ k ≤ 2 ^ 23 := Nat.pow_le_pow_right (by decide) hk
    have e23 : 2 ^ 23 = 8388608 := by decide
    rw [e23] at hp
    have h22 := fun (h : 2 ^ k < Z) => pow23 (k := k) (Nat.lt_of_lt_of_le h hb)
    have hf := HF.out k
    have e : ((2 ^ k : Nat) : Int) = (2 : Int) ^ k := by push_cast; rfl
    generalize 2 ^ k = P at *
    have hpw : wrap64 ((2 : Int) ^ k) = (P : Int) := by
      rw [← e]
      rw [IntWalk.wrap64_in _ ⟨by omega, by omega⟩]
    clear e
    have H22 := Lib.hid h22
    have HFF := Lib.hid hf
    clear h22 hf e23
    by_cases hlt : P < Z
    · have hd : (P : Int) < (Z : Int) := by omega
      go_wp2_with fail
      go_round
      case rel => exact ⟨k + 1, by have := H22.out hlt; omega, by go_num⟩
      case measure => have := H22.out hlt; simp [intOf]; omega
    · have hd : (Z : Int) ≤ (P : Int) := by omega
      go_wp2_with fail
      go_ret
      exact ⟨k, rfl, HFF.out hlt, by omega, rfl⟩
end Go.Proofs.Ytenhblpegobbjaa
