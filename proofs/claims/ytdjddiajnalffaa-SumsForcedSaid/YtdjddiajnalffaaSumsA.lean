/- Contracts of package sums: turned, mask, step. -/
import Derived.Test.YtdjddiajnalffaaChecked
import Derived.Test.YtdjddiajnalffaaPlainSums
namespace Go.Proofs.Ytdjddiajnalffaa
open Go.RowKit
set_option linter.unusedVariables false
set_option linter.unusedSimpArgs false

set_option maxRecDepth 100000 in
theorem turned_any (n wd : Nat) (w : World) (hn : n < 4294967296) (hw : wd ≤ 32) :
    Calls Try.prog 52 #[.int .u32 n, .int .i64 wd] w fun e w' => e = .returned (.int .u32 (turnTo n wd : Nat)) ∧ w = w' := by
  go_enter Try.func52, Try.ntmps52
  go_wp2_with fail
  go_loop [0, 5, 7] (fun v t i => ∃ k : Nat, k ≤ wd ∧ i = .int .i64 k ∧ t = .int .u32 (turnTo n k : Nat) ∧ v = .int .u32 (n / 2 ^ k : Nat)) (fun v t i => wd - (intOf i).toNat)
  case atStart => exact ⟨0, by omega, rfl, rfl, by simp⟩
  case round =>
    obtain ⟨k, hk, rfl, rfl, rfl⟩ := hrel
    have ht := turnTo_lt n k
    generalize hT : turnTo n k = t at *
    have HT := Lib.hid hT; clear hT
    by_cases hlt : k < wd
    · have hst := turn_step n t k ht (by omega) hn HT.out
      have hhf := half_cast n k
      have hq : n / 2 ^ k ≤ n := Nat.div_le_self _ _
      generalize n / 2 ^ k = q at *
      generalize hq2 : n / 2 ^ (k + 1) = q2 at *
      have HQ2 := Lib.hid hq2; clear hq2
      have HST := Lib.hid hst; clear hst
      go_wp2_with fail
      go_round
      case rel => exact ⟨k + 1, by omega, by go_num, by rw [← HST.out, IntKind.wrap_u32'], by rw [HQ2.out]⟩
      case measure => simp [intOf]; omega
    · obtain rfl : k = wd := by omega
      go_wp2_with fail
      go_ret
      exact ⟨by rw [HT.out]; rfl, rfl⟩

set_option maxRecDepth 100000 in
theorem mask_any (wd : Nat) (w : World) (hw : wd = 8 ∨ wd = 16 ∨ wd = 32) :
    Calls Try.prog 48 #[.int .i64 wd] w fun e w' => e = .returned (.int .u32 (2 ^ wd - 1 : Nat)) ∧ w = w' := by
  rcases hw with rfl | rfl | rfl
  all_goals
    go_enter Try.func48, Try.ntmps48
    go_wp2_with fail
    go_ret
    exact ⟨rfl, rfl⟩

/-- how a sum is made, as a value -/
def sumCells (m : SumP) : Array Value := #[.int .i64 (m.w : Nat), .int .u32 (m.p : Nat), .bool m.t, .int .u32 (m.i : Nat), .int .u32 (m.o : Nat)]
def sumVal (m : SumP) : Value := .agg (sumCells m)

set_option maxRecDepth 100000 in
theorem step_any (m : SumP) (r c : Nat) (w : World) (hm : m.Ok) (hr : r < 2 ^ m.w) (hc : c < 256) :
    Calls Try.prog 49 #[sumVal m, .int .u32 r, .int .u8 c] w fun e w' => e = .returned (.int .u32 (stepN m r c : Nat)) ∧ Below w.heap.size w w' := by
  rcases m with ⟨wd, p, t, ini, o⟩
  obtain ⟨hw, hp, hodd, hi, ho⟩ := hm
  simp only at hw hp hodd hi ho hr
  have hwl : 2 ^ wd ≤ 4294967296 := by rcases hw with e | e | e <;> rw [e] <;> decide
  have hk8 := stepK_lt wd p
  have key : ∀ (t : Bool) (c' : Nat), c' < 256 → (t = false → c' = c) → (t = true → turnTo c 8 = c') → 
      Calls Try.prog 49 #[.agg #[.int .i64 wd, .int .u32 p, .bool t, .int .u32 ini, .int .u32 o], .int .u32 r, .int .u8 c] w fun e w' => e = .returned (.int .u32 (stepK wd p (r ^^^ c' * 2 ^ (wd - 8)) 8 : Nat)) ∧ Below w.heap.size w w' := by
    intro t c' hc' hf ht
    have hcs : c' * 2 ^ (wd - 8) < 2 ^ wd := by
      have e : 2 ^ wd = 256 * 2 ^ (wd - 8) := by
        rw [show (256 : Nat) = 2 ^ 8 from rfl, ← Nat.pow_add]; congr 1; omega
      rw [e]; exact Nat.mul_lt_mul_of_pos_right hc' (Nat.pow_pos (by decide))
    have hr0 := r0_form r c' (wd - 8) (by omega) (by omega)
    have hR := Nat.xor_lt_two_pow hr hcs
    generalize r ^^^ c' * 2 ^ (wd - 8) = R at *
    have hwI : (wd : Int) - 8 ≤ 24 := by omega
    have hwI2 : (0 : Int) ≤ (wd : Int) - 8 := by omega
    cases t
    · have hcc := hf rfl
      subst hcc
      clear hf ht
      go_enter Try.func49, Try.ntmps49
      go_wp2_with fail
      have hrow := RowAt.new w 25 #[.int .i64 wd, .int .u32 p, .bool false, .int .u32 ini, .int .u32 o]
      have hb := (Below.refl w.heap.size w).alloc (Nat.le_refl _) (.cells #[.int .i64 wd, .int .u32 p, .bool false, .int .u32 ini, .int .u32 o] 25)
      generalize w.alloc (.cells #[.int .i64 wd, .int .u32 p, .bool false, .int .u32 ini, .int .u32 o] 25) = w0 at *
      generalize hB : w.heap.size = B at *
      have HB := Lib.hid hB; clear hB
      go_loopw [1, 22] (fun v i wr => ∃ k : Nat, k ≤ 8 ∧ i = .int .i64 k ∧ v = .int .u32 (stepK wd p R k : Nat) ∧ RowAt wr B 0 25 [.int .i64 wd, .int .u32 p, .bool false, .int .u32 ini, .int .u32 o] ∧ Below B w wr) (fun v i _ => 8 - (intOf i).toNat)
      case atStart => exact ⟨0, by omega, rfl, rfl, hrow, hb⟩
      case round =>
        clear hrow hb
        obtain ⟨k, hk, rfl, rfl, hrow, hb⟩ := hrel
        have hkl := hk8 R k hp hR
        generalize hS : stepK wd p R k = S at *
        have HS := Lib.hid hS; clear hS
        by_cases hlt : k < 8
        · have hc0 := hrow.cell0 0 (by simp)
          have hc1 := hrow.cell0 1 (by simp)
          simp only [List.getElem_cons_zero, List.getElem_cons_succ] at hc0 hc1
          have htop := top_form S (wd - 1) (by omega)
          have htl : S / 2 ^ (wd - 1) % 2 < 2 := Nat.mod_lt _ (by decide)
          generalize hT : S / 2 ^ (wd - 1) % 2 = T at *
          obtain ⟨f1, f2, f3⟩ := step_form wd p S T hw hp hkl hT
          have f4 := f1
          rw [IntKind.wrap_u32'] at f4
          have HT := Lib.hid hT; clear hT
          have hstep : stepK wd p R (k + 1) = stepB wd p S := by rw [stepK, HS.out]
          generalize S * 2 % 2 ^ wd = S2 at *
          generalize p * T = pT at *
          have hfl := stepB_lt wd p S hp
          generalize stepB wd p S = S3 at *
          have HST := Lib.hid hstep; clear hstep
          have hmask := fun w => mask_any wd w hw
          generalize 2 ^ wd - 1 = M at *
          have HMASK := Lib.hid hmask; clear hmask
          have hwI3 : (0 : Int) ≤ (wd : Int) - 1 := by omega
          have hwI4 : (wd : Int) - 1 ≤ 31 := by omega
          go_wp2_with fail
          go_quiet ((go_at_call 48; with_reducible exact Calls.quiet_of_same (turn (HMASK.out _))))
          go_wp2_with fail
          go_roundw
          case rel => exact ⟨k + 1, by omega, by go_num, by rw [HST.out], hrow.drewN nq, bdrewN hb nq⟩
          case measure => simp [intOf]; omega
        · obtain rfl : k = 8 := by omega
          go_wp2_with fail
          go_ret
          exact ⟨by rw [HS.out]; rfl, by rw [HB.out]; exact hb⟩
    · have hcc := ht rfl
      clear hf ht
      have HCC := Lib.hid hcc; clear hcc
      go_enter Try.func49, Try.ntmps49
      go_wp2_with fail
      refine (turned_any c 8 _ (by omega) (by omega)).mono ?_
      rintro e w1 ⟨rfl, rfl⟩
      rw [HCC.out]
      go_wp2_with fail
      have hrow := RowAt.new w 25 #[.int .i64 wd, .int .u32 p, .bool true, .int .u32 ini, .int .u32 o]
      have hb := (Below.refl w.heap.size w).alloc (Nat.le_refl _) (.cells #[.int .i64 wd, .int .u32 p, .bool true, .int .u32 ini, .int .u32 o] 25)
      generalize w.alloc (.cells #[.int .i64 wd, .int .u32 p, .bool true, .int .u32 ini, .int .u32 o] 25) = w0 at *
      generalize hB : w.heap.size = B at *
      have HB := Lib.hid hB; clear hB
      go_loopw [1, 22] (fun v i wr => ∃ k : Nat, k ≤ 8 ∧ i = .int .i64 k ∧ v = .int .u32 (stepK wd p R k : Nat) ∧ RowAt wr B 0 25 [.int .i64 wd, .int .u32 p, .bool true, .int .u32 ini, .int .u32 o] ∧ Below B w wr) (fun v i _ => 8 - (intOf i).toNat)
      case atStart => exact ⟨0, by omega, rfl, rfl, hrow, hb⟩
      case round =>
        clear hrow hb
        obtain ⟨k, hk, rfl, rfl, hrow, hb⟩ := hrel
        have hkl := hk8 R k hp hR
        generalize hS : stepK wd p R k = S at *
        have HS := Lib.hid hS; clear hS
        by_cases hlt : k < 8
        · have hc0 := hrow.cell0 0 (by simp)
          have hc1 := hrow.cell0 1 (by simp)
          simp only [List.getElem_cons_zero, List.getElem_cons_succ] at hc0 hc1
          have htop := top_form S (wd - 1) (by omega)
          have htl : S / 2 ^ (wd - 1) % 2 < 2 := Nat.mod_lt _ (by decide)
          generalize hT : S / 2 ^ (wd - 1) % 2 = T at *
          obtain ⟨f1, f2, f3⟩ := step_form wd p S T hw hp hkl hT
          have f4 := f1
          rw [IntKind.wrap_u32'] at f4
          have HT := Lib.hid hT; clear hT
          have hstep : stepK wd p R (k + 1) = stepB wd p S := by rw [stepK, HS.out]
          generalize S * 2 % 2 ^ wd = S2 at *
          generalize p * T = pT at *
          have hfl := stepB_lt wd p S hp
          generalize stepB wd p S = S3 at *
          have HST := Lib.hid hstep; clear hstep
          have hmask := fun w => mask_any wd w hw
          generalize 2 ^ wd - 1 = M at *
          have HMASK := Lib.hid hmask; clear hmask
          have hwI3 : (0 : Int) ≤ (wd : Int) - 1 := by omega
          have hwI4 : (wd : Int) - 1 ≤ 31 := by omega
          go_wp2_with fail
          go_quiet ((go_at_call 48; with_reducible exact Calls.quiet_of_same (turn (HMASK.out _))))
          go_wp2_with fail
          go_roundw
          case rel => exact ⟨k + 1, by omega, by go_num, by rw [HST.out], hrow.drewN nq, bdrewN hb nq⟩
          case measure => simp [intOf]; omega
        · obtain rfl : k = 8 := by omega
          go_wp2_with fail
          go_ret
          exact ⟨by rw [HS.out]; rfl, by rw [HB.out]; exact hb⟩
  unfold sumVal sumCells stepN cOf
  have hcl : turnTo c 8 < 256 := turnTo_lt c 8
  cases t
  · exact key false c hc (fun _ => rfl) (fun h => by cases h)
  · exact key true (turnTo c 8) hcl (fun h => by cases h) (fun _ => rfl)
end Go.Proofs.Ytdjddiajnalffaa
