/- Contracts of real.Class, bitsOf, Up, Down, at 64 bits. -/
import Derived.Test.YtnldobfafaajjaaDoorRealKey
namespace Go.Proofs.YtnldobfafaajjaaDoor
open Go.RowKit
set_option linter.unusedVariables false
set_option linter.unusedSimpArgs false
namespace RealO
/-- the bits of a key -/
def bof (k : Int) : Nat := if 0 ≤ k then k.toNat else (-k - 1).toNat + 2 ^ 63
theorem bof_lt (k : Int) (h1 : -9223372036854775808 ≤ k) (h2 : k ≤ 9223372036854775807) : bof k < 2 ^ 64 := by
  unfold bof; split <;> omega
theorem rung_lt (b : Nat) : rung b < 2 ^ 63 := Nat.mod_lt _ (by decide)
theorem key_bounds (b : Nat) : -9223372036854775808 ≤ key b ∧ key b ≤ 9223372036854775807 := by
  have := rung_lt b
  unfold key
  split <;> omega
theorem key_bof (k : Int) (h1 : -9223372036854775808 ≤ k) (h2 : k ≤ 9223372036854775807) : key (bof k) = k := by
  unfold key negW rung bof
  by_cases h : 0 ≤ k
  · rw [if_pos h]
    have e1 : k.toNat / 2 ^ 63 = 0 := Nat.div_eq_of_lt (by omega)
    have e2 : k.toNat % 2 ^ 63 = k.toNat := Nat.mod_eq_of_lt (by omega)
    rw [e1, e2]
    simp
    omega
  · rw [if_neg h]
    have e1 : ((-k - 1).toNat + 2 ^ 63) / 2 ^ 63 = 1 := by omega
    have e2 : ((-k - 1).toNat + 2 ^ 63) % 2 ^ 63 = (-k - 1).toNat := by omega
    rw [e1, e2]
    simp
    omega
theorem bof_key (b : Nat) (hb : b < 2 ^ 64) : bof (key b) = b := by
  have h := key_bounds b
  exact (key_inj _ _ (bof_lt _ h.1 h.2) hb).1 (key_bof _ h.1 h.2)
theorem nan_iff (b : Nat) : nanW b = true ↔ 9218868437227405312 < rung b := by
  unfold nanW; rw [decide_eq_true_eq]
theorem key_pos (b : Nat) (h : 0 ≤ key b) : negW b = false ∧ key b = (rung b : Nat) := by
  have := rung_lt b
  unfold key at *
  cases hn : negW b
  · rw [hn] at h; simp at h ⊢
  · rw [hn] at h; simp at h; omega
theorem key_neg (b : Nat) (h : key b < 0) : negW b = true ∧ key b = -((rung b : Nat) : Int) - 1 := by
  unfold key at *
  cases hn : negW b
  · rw [hn] at h; simp at h; omega
  · rw [hn] at h; simp at h ⊢
end RealO
theorem u64_or_high (k : Nat) (h : k < 9223372036854775808) : bits .or .u64 (k : Int) 9223372036854775808 = ((k + 9223372036854775808 : Nat) : Int) := by
  have := (n64_bits k 9223372036854775808 (by omega) (by decide)).2
  rw [show ((9223372036854775808 : Nat) : Int) = 9223372036854775808 from rfl] at this
  rw [this]
  congr 1
  have h2 := Nat.two_pow_add_eq_or_of_lt (i := 63) (b := k) (by simpa using h) 1
  rw [Nat.mul_one] at h2
  rw [Nat.or_comm]
  rw [show (9223372036854775808 : Nat) = 2 ^ 63 from rfl]
  omega
set_option maxRecDepth 100000 in
theorem bitsOf_64 (k : Int) (w : World) (h1 : -9223372036854775808 ≤ k) (h2 : k ≤ 9223372036854775807) : Calls Tryd.prog 57 #[.int .i64 k, .int .i64 64] w fun e w' => e = .returned (.int .u64 (RealO.bof k : Nat)) ∧ w = w' := by
  have hk1 : IntKind.u64.wrap 9223372036854775808 = 9223372036854775808 := by decide
  have hbof : RealO.bof k = if 0 ≤ k then k.toNat else (-k - 1).toNat + 2 ^ 63 := rfl
  by_cases h : 0 ≤ k
  · rw [if_pos h] at hbof
    obtain ⟨n, rfl⟩ := Int.eq_ofNat_of_zero_le h
    rw [hbof]
    have d : decide ((0 : Int) ≤ (n : Int)) = true := by simp
    have hw : IntKind.u64.wrap (n : Int) = (n : Int) := by rw [IntKind.wrap_u64]; omega
    clear hbof
    go_enter Tryd.func57, Tryd.ntmps57
    go_wp2_with fail
    go_ret
    exact ⟨ret_int (by omega), rfl⟩
  · rw [if_neg h] at hbof
    obtain ⟨n, hn⟩ : ∃ n : Nat, k = -(n : Int) - 1 := ⟨(-k - 1).toNat, by omega⟩
    subst hn
    rw [hbof]
    have d : decide ((0 : Int) ≤ -(n : Int) - 1) = false := by rw [decide_eq_false_iff_not]; exact h
    have e1 : wrap64 (wrap64 (-(-(n : Int) - 1)) - 1) = (n : Int) := by unfold wrap64; omega
    have hw : IntKind.u64.wrap (n : Int) = (n : Int) := by rw [IntKind.wrap_u64]; omega
    have ho := u64_or_high n (by omega)
    clear hbof
    go_enter Tryd.func57, Tryd.ntmps57
    go_wp2_with fail
    go_ret
    refine ⟨ret_int ?_, rfl⟩
    omega
/-- which kind of a real bits are -/
def cls (E F : Nat) : Int := if E = 2047 ∧ 0 < F then 4 else if E = 2047 then 3 else if 0 < E then 2 else if 0 < F then 1 else 0
set_option maxRecDepth 100000 in
theorem Class_64 (b : Nat) (w : World) (hb : b < 18446744073709551616) : Calls Tryd.prog 54 #[.int .u64 (b : Nat), .int .i64 64] w fun e w' => e = .returned (.tuple #[.int .i64 (cls (b / 2 ^ 52 % 2 ^ 11) (b % 2 ^ 52)), .nilIface]) ∧ Below w.heap.size w w' := by
  have hk1 : IntKind.i64.wrap 2048 = 2048 := by decide
  have hk2 : IntKind.i64.wrap 2047 = 2047 := by decide
  have hap := Apart_64 b w hb
  unfold rval at hap
  have hE : b / 2 ^ 52 % 2 ^ 11 < 2 ^ 11 := Nat.mod_lt _ (by decide)
  generalize b / 2 ^ 63 % 2 = N at *
  generalize b / 2 ^ 52 % 2 ^ 11 = E at *
  generalize b % 2 ^ 52 = F at *
  generalize ((N : Int) == 1) = neg at *
  have HAP := Lib.hid hap; clear hap
  obtain ⟨q1, hq1⟩ : ∃ q : Bool, ((E : Int) == 2047) = q := ⟨_, rfl⟩
  obtain ⟨q2, hq2⟩ : ∃ q : Bool, decide (0 < F) = q := ⟨_, rfl⟩
  obtain ⟨q3, hq3⟩ : ∃ q : Bool, decide (0 < E) = q := ⟨_, rfl⟩
  have hres : cls E F = if q1 && q2 then 4 else if q1 then 3 else if q3 then 2 else if q2 then 1 else 0 := by
    subst hq1 hq2 hq3
    unfold cls
    have p1 : ((E : Int) == 2047) = decide (E = 2047) := by rw [Bool.eq_iff_iff]; simp; omega
    rw [p1]
    simp
  have HR := Lib.hid hres; clear hres
  have hq2' : decide ((0 : Int) < (F : Int)) = q2 := by rw [← hq2]; congr 1; simp
  have hq3' : decide ((0 : Int) < (E : Int)) = q3 := by rw [← hq3]; congr 1; simp
  go_enter Tryd.func54, Tryd.ntmps54
  go_wp2_with fail
  refine HAP.out.mono ?_
  rintro e w1 ⟨rfl, hb1⟩
  go_wp2_with fail
  refine (form_64 _).mono ?_
  rintro e w2 ⟨rfl, hb2⟩
  have hrow := (RowAt.new w1 89 #[.bool neg, .int .i64 (E : Nat), .int .u64 (F : Nat)]).below hb2 (by simp)
  have hbw := ((Below.refl w1.heap.size w1).alloc (Nat.le_refl _) (.cells #[.bool neg, .int .i64 (E : Nat), .int .u64 (F : Nat)] 89)).trans (hb2.mono (by simp))
  replace hbw := hb1.trans (hbw.mono hb1.size)
  clear hb1 hb2
  generalize hB : w1.heap.size = B at *
  clear hB
  have hc0 := hrow.cell0 0 (by simp)
  have hc1 := hrow.cell0 1 (by simp)
  have hc2 := hrow.cell0 2 (by simp)
  simp only [List.getElem_cons_zero, List.getElem_cons_succ] at hc0 hc1 hc2
  cases q1 with
  | true =>
    cases q2 with
    | true =>
      go_wp2_with fail
      go_quiet (fail)
      go_wp2_with fail
      go_ret2
      exact ⟨by rw [HR.out]; rfl, by first | exact hbw | exact bdrewN hbw _ | exact bdrewN (bdrewN hbw _) _⟩
    | false =>
      go_wp2_with fail
      go_quiet (fail)
      go_wp2_with fail
      go_quiet (fail)
      go_wp2_with fail
      go_ret2
      exact ⟨by rw [HR.out]; rfl, by first | exact hbw | exact bdrewN hbw _ | exact bdrewN (bdrewN hbw _) _⟩
  | false =>
    go_wp2_with fail
    go_quiet (fail)
    go_wp2_with fail
    go_quiet (fail)
    cases q3 with
    | true =>
      go_wp2_with fail
      go_ret2
      exact ⟨by rw [HR.out]; rfl, by first | exact hbw | exact bdrewN hbw _ | exact bdrewN (bdrewN hbw _) _⟩
    | false =>
      cases q2 with
      | true =>
        go_wp2_with fail
        go_ret2
        exact ⟨by rw [HR.out]; rfl, by first | exact hbw | exact bdrewN hbw _ | exact bdrewN (bdrewN hbw _) _⟩
      | false =>
        go_wp2_with fail
        go_ret2
        exact ⟨by rw [HR.out]; rfl, by first | exact hbw | exact bdrewN hbw _ | exact bdrewN (bdrewN hbw _) _⟩
theorem cls_nan (b : Nat) : (cls (b / 2 ^ 52 % 2 ^ 11) (b % 2 ^ 52) == 4) = RealO.nanW b := by
  unfold cls RealO.nanW RealO.rung
  have h : b % 2 ^ 63 = b / 2 ^ 52 % 2 ^ 11 * 2 ^ 52 + b % 2 ^ 52 := by omega
  have hE : b / 2 ^ 52 % 2 ^ 11 < 2 ^ 11 := Nat.mod_lt _ (by decide)
  have hF : b % 2 ^ 52 < 2 ^ 52 := Nat.mod_lt _ (by decide)
  rw [h]
  generalize b / 2 ^ 52 % 2 ^ 11 = E at *
  generalize b % 2 ^ 52 = F at *
  rw [Bool.eq_iff_iff, beq_iff_eq, decide_eq_true_eq]
  (repeat' split) <;> (try omega)
theorem cls_inf (b : Nat) : (cls (b / 2 ^ 52 % 2 ^ 11) (b % 2 ^ 52) == 3) = decide (RealO.rung b = 2047 * 2 ^ 52) := by
  unfold cls RealO.rung
  have h : b % 2 ^ 63 = b / 2 ^ 52 % 2 ^ 11 * 2 ^ 52 + b % 2 ^ 52 := by omega
  have hE : b / 2 ^ 52 % 2 ^ 11 < 2 ^ 11 := Nat.mod_lt _ (by decide)
  have hF : b % 2 ^ 52 < 2 ^ 52 := Nat.mod_lt _ (by decide)
  rw [h]
  generalize b / 2 ^ 52 % 2 ^ 11 = E at *
  generalize b % 2 ^ 52 = F at *
  rw [Bool.eq_iff_iff, beq_iff_eq, decide_eq_true_eq]
  (repeat' split) <;> (try omega)
end Go.Proofs.YtnldobfafaajjaaDoor
