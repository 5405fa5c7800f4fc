/- Contracts of package sums: back, in. -/
import Derived.Test.YtdjddiajnalffaaSumsE
import Derived.Test.YtdjddiajnalffaaPlainSums4
namespace Go.Proofs.Ytdjddiajnalffaa
open Go.RowKit
set_option linter.unusedVariables false
set_option linter.unusedSimpArgs false
theorem back_form (w p r : Nat) (hw : w = 8 ∨ w = 16 ∨ w = 32) (hp : p < 2 ^ w) (hr : r < 2 ^ w) :
    bits .and .u32 (r : Int) 1 = ((r % 2 : Nat) : Int) ∧ IntKind.u32.wrap ((p : Int) * ((r % 2 : Nat) : Int)) = ((p * (r % 2) : Nat) : Int) ∧
    bits .xor .u32 (r : Int) ((p * (r % 2) : Nat) : Int) = ((r ^^^ p * (r % 2) : Nat) : Int) ∧
    bits .or .u32 (((r ^^^ p * (r % 2) : Nat) : Int) / 2) (((r % 2 : Nat) : Int) * 2 ^ (w - 1) % 4294967296) = ((backB w p r : Nat) : Int) ∧
    bits .or .u32 (((r ^^^ p * (r % 2) : Nat) : Int) / 2) (IntKind.u32.wrap (((r % 2 : Nat) : Int) * 2 ^ (w - 1))) = ((backB w p r : Nat) : Int) := by
  have hl : 2 ^ w ≤ 4294967296 := by rcases hw with e | e | e <;> rw [e] <;> decide
  have hx2 : r % 2 < 2 := Nat.mod_lt _ (by decide)
  have hpx : p * (r % 2) ≤ p * 1 := Nat.mul_le_mul_left _ (by omega)
  have hP := pow_half w (by omega)
  have hlow : r % 2 * 2 ^ (w - 1) ≤ 1 * 2 ^ (w - 1) := Nat.mul_le_mul_right _ (by omega)
  have hV : r ^^^ p * (r % 2) < 2 ^ w := Nat.xor_lt_two_pow hr (by omega)
  have e1 : ((r % 2 : Nat) : Int) * 2 ^ (w - 1) = ((r % 2 * 2 ^ (w - 1) : Nat) : Int) := by simp
  have e2 : ((r ^^^ p * (r % 2) : Nat) : Int) / 2 = (((r ^^^ p * (r % 2)) / 2 : Nat) : Int) := by simp
  have key : bits .or .u32 (((r ^^^ p * (r % 2) : Nat) : Int) / 2) (((r % 2 : Nat) : Int) * 2 ^ (w - 1) % 4294967296) = ((backB w p r : Nat) : Int) := by
    rw [e1, e2]
    have e3 : ((r % 2 * 2 ^ (w - 1) : Nat) : Int) % 4294967296 = ((r % 2 * 2 ^ (w - 1) : Nat) : Int) := by omega
    rw [e3, u32_or_nat _ _ (by omega) (by omega), backB]
  refine ⟨and_one32 r (by omega), ?_, u32_xor_nat _ _ (by omega) (by omega), key, ?_⟩
  · rw [← Int.natCast_mul]; exact IntWalk.u32_in _ ⟨by omega, by omega⟩
  · rw [IntKind.wrap_u32']; exact key
set_option maxRecDepth 100000 in
theorem back_any (m : SumP) (r c : Nat) (w : World) (hm : m.Ok) (hr : r < 2 ^ m.w) (hc : c < 256) :
    Calls Try.prog 51 #[sumVal m, .int .u32 r, .int .u8 c] w fun e w' => e = .returned (.int .u32 (backN m r c : Nat)) ∧ Below w.heap.size w w' := by
  rcases m with ⟨wd, p, t, ini, o⟩
  obtain ⟨hw, hp, hodd, hi, ho⟩ := hm
  simp only at hw hp hodd hi ho hr
  have hwl : 2 ^ wd ≤ 4294967296 := by rcases hw with e | e | e <;> rw [e] <;> decide
  have key : ∀ (t : Bool) (c' backN' : Nat), c' < 256 → (t = false → c' = c) → (t = true → turnTo c 8 = c') → backN' = backK wd p r 8 ^^^ c' * 2 ^ (wd - 8) →
      Calls Try.prog 51 #[.agg #[.int .i64 wd, .int .u32 p, .bool t, .int .u32 ini, .int .u32 o], .int .u32 r, .int .u8 c] w fun e w' => e = .returned (.int .u32 (backN' : Nat)) ∧ Below w.heap.size w w' := by
    intro t c' backN' hc' hf ht hBN
    have hcs : c' * 2 ^ (wd - 8) < 2 ^ wd := by
      have e : 2 ^ wd = 256 * 2 ^ (wd - 8) := by
        rw [show (256 : Nat) = 2 ^ 8 from rfl, ← Nat.pow_add]; congr 1; omega
      rw [e]; exact Nat.mul_lt_mul_of_pos_right hc' (Nat.pow_pos (by decide))
    have hwI : (wd : Int) - 8 ≤ 24 := by omega
    have hwI2 : (0 : Int) ≤ (wd : Int) - 8 := by omega
    cases t
    · have hcc := hf rfl
      subst hcc
      clear hf ht
      go_enter Try.func51, Try.ntmps51
      go_wp2_with fail
      have hrow := RowAt.new w 25 #[.int .i64 wd, .int .u32 p, .bool false, .int .u32 ini, .int .u32 o]
      have hb := (Below.refl w.heap.size w).alloc (Nat.le_refl _) (.cells #[.int .i64 wd, .int .u32 p, .bool false, .int .u32 ini, .int .u32 o] 25)
      generalize w.alloc (.cells #[.int .i64 wd, .int .u32 p, .bool false, .int .u32 ini, .int .u32 o] 25) = w0 at *
      generalize hB : w.heap.size = B at *
      have HB := Lib.hid hB; clear hB
      go_loopw [1, 14] (fun v i wr => ∃ k : Nat, k ≤ 8 ∧ i = .int .i64 k ∧ v = .int .u32 (backK wd p r k : Nat) ∧ RowAt wr B 0 25 [.int .i64 wd, .int .u32 p, .bool false, .int .u32 ini, .int .u32 o] ∧ Below B w wr) (fun v i _ => 8 - (intOf i).toNat)
      case atStart => exact ⟨0, by omega, rfl, rfl, hrow, hb⟩
      case round =>
        clear hrow hb
        obtain ⟨k, hk, rfl, rfl, hrow, hb⟩ := hrel
        have hkl := backK_lt wd p r (by omega) hodd hp hr k
        have hc0 := hrow.cell0 0 (by simp)
        have hc1 := hrow.cell0 1 (by simp)
        simp only [List.getElem_cons_zero, List.getElem_cons_succ] at hc0 hc1
        generalize hS : backK wd p r k = S at *
        have HS := Lib.hid hS; clear hS
        by_cases hlt : k < 8
        · obtain ⟨f1, f2, f3, f4, f5⟩ := back_form wd p S hw hp hkl
          have f6 := f2
          rw [IntKind.wrap_u32'] at f6
          have hstep : backK wd p r (k + 1) = backB wd p S := by rw [backK, HS.out]
          generalize backB wd p S = S3 at *
          generalize S ^^^ p * (S % 2) = V at *
          generalize p * (S % 2) = pL at *
          generalize S % 2 = L at *
          have HST := Lib.hid hstep; clear hstep
          have hwI3 : (0 : Int) ≤ (wd : Int) - 1 := by omega
          have hwI4 : (wd : Int) - 1 ≤ 31 := by omega
          go_wp2_with fail
          go_quiet (fail)
          go_wp2_with fail
          go_roundw
          case rel => exact ⟨k + 1, by omega, by go_num, by rw [HST.out], hrow.drewN nq, bdrewN hb nq⟩
          case measure => simp [intOf]; omega
        · obtain rfl : k = 8 := by omega
          have hr0 := r0_form S c' (wd - 8) (by omega) (by omega)
          have hR : backN' = S ^^^ c' * 2 ^ (wd - 8) := by rw [hBN, HS.out]
          generalize S ^^^ c' * 2 ^ (wd - 8) = R at *
          go_wp2_with fail
          go_ret
          exact ⟨by rw [hR]; rfl, by rw [HB.out]; exact hb⟩
    · have hcc := ht rfl
      clear hf ht
      have HCC := Lib.hid hcc; clear hcc
      go_enter Try.func51, Try.ntmps51
      go_wp2_with fail
      refine (turned_any c 8 _ (by omega) (by omega)).mono ?_
      rintro e w1 ⟨rfl, rfl⟩
      rw [HCC.out]
      go_wp2_with fail
      have hrow := RowAt.new w 25 #[.int .i64 wd, .int .u32 p, .bool true, .int .u32 ini, .int .u32 o]
      have hb := (Below.refl w.heap.size w).alloc (Nat.le_refl _) (.cells #[.int .i64 wd, .int .u32 p, .bool true, .int .u32 ini, .int .u32 o] 25)
      generalize w.alloc (.cells #[.int .i64 wd, .int .u32 p, .bool true, .int .u32 ini, .int .u32 o] 25) = w0 at *
      generalize hB : w.heap.size = B at *
      have HB := Lib.hid hB; clear hB
      go_loopw [1, 14] (fun v i wr => ∃ k : Nat, k ≤ 8 ∧ i = .int .i64 k ∧ v = .int .u32 (backK wd p r k : Nat) ∧ RowAt wr B 0 25 [.int .i64 wd, .int .u32 p, .bool true, .int .u32 ini, .int .u32 o] ∧ Below B w wr) (fun v i _ => 8 - (intOf i).toNat)
      case atStart => exact ⟨0, by omega, rfl, rfl, hrow, hb⟩
      case round =>
        clear hrow hb
        obtain ⟨k, hk, rfl, rfl, hrow, hb⟩ := hrel
        have hkl := backK_lt wd p r (by omega) hodd hp hr k
        have hc0 := hrow.cell0 0 (by simp)
        have hc1 := hrow.cell0 1 (by simp)
        simp only [List.getElem_cons_zero, List.getElem_cons_succ] at hc0 hc1
        generalize hS : backK wd p r k = S at *
        have HS := Lib.hid hS; clear hS
        by_cases hlt : k < 8
        · obtain ⟨f1, f2, f3, f4, f5⟩ := back_form wd p S hw hp hkl
          have f6 := f2
          rw [IntKind.wrap_u32'] at f6
          have hstep : backK wd p r (k + 1) = backB wd p S := by rw [backK, HS.out]
          generalize backB wd p S = S3 at *
          generalize S ^^^ p * (S % 2) = V at *
          generalize p * (S % 2) = pL at *
          generalize S % 2 = L at *
          have HST := Lib.hid hstep; clear hstep
          have hwI3 : (0 : Int) ≤ (wd : Int) - 1 := by omega
          have hwI4 : (wd : Int) - 1 ≤ 31 := by omega
          go_wp2_with fail
          go_quiet (fail)
          go_wp2_with fail
          go_roundw
          case rel => exact ⟨k + 1, by omega, by go_num, by rw [HST.out], hrow.drewN nq, bdrewN hb nq⟩
          case measure => simp [intOf]; omega
        · obtain rfl : k = 8 := by omega
          have hr0 := r0_form S c' (wd - 8) (by omega) (by omega)
          have hR : backN' = S ^^^ c' * 2 ^ (wd - 8) := by rw [hBN, HS.out]
          generalize S ^^^ c' * 2 ^ (wd - 8) = R at *
          go_wp2_with fail
          go_ret
          exact ⟨by rw [hR]; rfl, by rw [HB.out]; exact hb⟩
  unfold sumVal sumCells backN cOf
  have hcl : turnTo c 8 < 256 := turnTo_lt c 8
  cases t
  · exact key false c _ hc (fun _ => rfl) (fun h => by cases h) rfl
  · exact key true (turnTo c 8) _ hcl (fun h => by cases h) (fun _ => rfl) rfl
set_option maxRecDepth 100000 in
theorem in_any (m : SumP) (r : Nat) (w : World) (hm : m.Ok) (hr : r < 2 ^ m.w) :
    Calls Try.prog 50 #[sumVal m, .int .u32 r] w fun e w' => e = .returned (.int .u32 (inN m r : Nat)) ∧ Below w.heap.size w w' := by
  have hl := w_le m hm
  rcases m with ⟨wd, p, t, ini, o⟩
  obtain ⟨hw, hp, hodd, hi, ho⟩ := hm
  simp only at hw hp hodd hi ho hr hl
  unfold sumVal sumCells inN
  simp only
  have hx := u32_xor_nat r o (by omega) (by omega)
  have hR : r ^^^ o < 2 ^ wd := Nat.xor_lt_two_pow hr ho
  generalize r ^^^ o = R at *
  cases t
  · simp only [Bool.false_eq_true, if_false]
    go_enter Try.func50, Try.ntmps50
    go_wp2_with fail
    go_ret
    exact ⟨rfl, (Below.refl _ _).alloc (Nat.le_refl _) _⟩
  · have htu := fun w => turned_any R wd w (by omega) (by omega)
    simp only [if_true]
    generalize turnTo R wd = T at *
    have HTU := Lib.hid htu; clear htu
    go_enter Try.func50, Try.ntmps50
    go_wp2_with fail
    refine (HTU.out _).mono ?_
    rintro e w1 ⟨rfl, rfl⟩
    go_wp2_with fail
    go_ret
    exact ⟨rfl, (Below.refl _ _).alloc (Nat.le_refl _) _⟩
end Go.Proofs.Ytdjddiajnalffaa
