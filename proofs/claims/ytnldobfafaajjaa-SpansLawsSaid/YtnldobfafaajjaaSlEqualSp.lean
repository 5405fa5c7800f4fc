/- Contract of slices.Equal at []api.Span. -/
import Derived.Test.YtnldobfafaajjaaSpansB
import Derived.Laws.StructEq
namespace Go.Proofs.Ytnldobfafaajjaa
open Go.RowKit
set_option linter.unusedVariables false
set_option linter.unusedSimpArgs false
theorem run_spNe (x y : Spans.Sp) (w : World) : (binOp .neq 37 (.agg #[.int .i64 x.1, .int .i64 x.2]) (.agg #[.int .i64 y.1, .int .i64 y.2])).run Try.prog w = .ok (.bool (decide (x ≠ y))) w := by
  have hS : Try.prog.underlying 37 = some (.struct (Try.prog.fieldsOf 37)) := by kernel_rfl
  have hp : Try.prog.stoodInHeld 37 = false := by kernel_rfl
  have a3 := Try.isAgg3
  have z3 := Try.sizeOf3
  have u3 := Try.underlying3
  obtain ⟨x1, x2⟩ := x
  obtain ⟨y1, y2⟩ := y
  rw [run_neq_struct, show (10000 : Nat) = 9999 + 1 from rfl, run_equalIn_agg w 9999 37 _ _ hS hp]
  simp only [Program.fieldsOf, Try.underlying37]
  go_simp
  by_cases h1 : x1 = y1 <;> by_cases h2 : x2 = y2 <;> simp [h1, h2]
theorem spEqual_len (a b : Option Addr) (n m c d : Nat) (w : World) (h : n ≠ m) :
    Calls Try.prog 17 #[.slice a n c, .slice b m d] w fun e w' => e = .returned (.bool false) ∧ w = w' := by
  have hne : ((n : Int) != (m : Int)) = true := by rw [bne_iff_ne]; omega
  go_enter Try.func17, Try.ntmps17
  go_wp2_with fail
  go_ret
  exact ⟨rfl, rfl⟩
theorem sp_ext {L M : List Spans.Sp} (h : L.length = M.length) (hj : ∀ j, j < L.length → L.getD j (0, 0) = M.getD j (0, 0)) : L = M := by
  apply List.ext_getElem h
  intro i h1 h2
  have := hj i h1
  rwa [List.getD_eq_getElem?_getD, List.getD_eq_getElem?_getD, List.getElem?_eq_getElem h1, List.getElem?_eq_getElem h2] at this
set_option maxRecDepth 100000 in
theorem spEqual_same (a b : Option Addr) (n c d BA BB : Nat) (L M : List Spans.Sp) (w : World) (hn : n ≤ 4611686018427387904) (ha : ReadsSp w BA a n c L) (hb : ReadsSp w BB b n d M) :
    Calls Try.prog 17 #[.slice a n c, .slice b n d] w fun e w' => e = .returned (.bool (decide (L = M))) ∧ ∃ k, w' = w.drewN k := by
  have HL := Lib.hid ha.1
  have HM := Lib.hid hb.1
  have HA := Lib.hid ha; clear ha
  have HB := Lib.hid hb; clear hb
  have hnn : ((n : Int) != (n : Int)) = false := by simp
  go_enter Try.func17, Try.ntmps17
  go_wp2_with fail
  go_loopw [13] (fun i wr => ∃ k : Nat, k ≤ n ∧ i = .int .i64 k ∧ Hid (∀ j, j < k → L.getD j (0, 0) = M.getD j (0, 0)) ∧ ∃ q, Hid (wr = w.drewN q)) (fun i _ => n - (intOf i).toNat)
  case atStart => exact ⟨0, by omega, rfl, fun j hj => by omega, 0, rfl⟩
  case round =>
    obtain ⟨k, hk, rfl, HP, q, hw⟩ := hrel
    obtain rfl := hw.out
    by_cases hlt : k < n
    · obtain ⟨g, off, rfl, hg, hc1, hc2⟩ := HA.out.2.2 k hlt
      obtain ⟨g', off', rfl, hg', hc3, hc4⟩ := HB.out.2.2 k hlt
      have hki : (k : Int) < (n : Int) := by omega
      have hrun := run_spNe (L.getD k (0, 0)) (M.getD k (0, 0))
      generalize hx : L.getD k (0, 0) = x at *
      generalize hy : M.getD k (0, 0) = y at *
      have HX := Lib.hid hx; clear hx
      have HY := Lib.hid hy; clear hy
      by_cases hxy : x = y
      · have hb : decide (x ≠ y) = false := by simp [hxy]
        rw [hb] at hrun
        have HXY := Lib.hid hxy; clear hxy hb
        generalize x.1 = x1 at *
        generalize x.2 = x2 at *
        generalize y.1 = y1 at *
        generalize y.2 = y2 at *
        go_wp2_with fail
        go_quiet (fail)
        go_wp2_with fail
        go_roundw
        case rel =>
          refine ⟨k + 1, by omega, by go_num, ?_, _, rfl⟩
          intro j hj
          rcases Nat.lt_or_ge j k with h | h
          · exact HP.out j h
          · obtain rfl : j = k := by omega
            rw [HX.out, HY.out, HXY.out]
        case measure => simp [intOf]; omega
      · have hb : decide (x ≠ y) = true := by simpa using hxy
        rw [hb] at hrun
        have HXY := Lib.hid hxy; clear hxy hb
        generalize x.1 = x1 at *
        generalize x.2 = x2 at *
        generalize y.1 = y1 at *
        generalize y.2 = y2 at *
        go_wp2_with fail
        go_quiet (fail)
        go_wp2_with fail
        go_ret
        refine ⟨ret_bool ?_, _, World.drewN_drewN _ _ _⟩
        symm
        rw [decide_eq_false_iff_not]
        intro h
        subst h
        exact HXY.out (HX.out.symm.trans HY.out)
    · obtain rfl : k = n := by omega
      have hd : decide ((k : Int) < (k : Int)) = false := by simp
      go_wp2_with fail
      go_ret
      refine ⟨ret_bool ?_, _, rfl⟩
      symm
      rw [decide_eq_true_eq]
      exact sp_ext (by rw [HL.out, HM.out]) (fun i hi => HP.out i (by rw [HL.out] at hi; exact hi))
/-- whatever their lengths -/
theorem spEqual_any (a b : Option Addr) (n m c d BA BB : Nat) (L M : List Spans.Sp) (w : World) (hn : n ≤ 4611686018427387904) (ha : ReadsSp w BA a n c L) (hb : ReadsSp w BB b m d M) :
    Calls Try.prog 17 #[.slice a n c, .slice b m d] w fun e w' => e = .returned (.bool (decide (L = M))) ∧ ∃ k, w' = w.drewN k := by
  by_cases h : n = m
  · subst h; exact spEqual_same a b n c d BA BB L M w hn ha hb
  · refine (spEqual_len a b n m c d w h).mono ?_
    rintro e w' ⟨rfl, rfl⟩
    refine ⟨ret_bool ?_, 0, rfl⟩
    symm
    rw [decide_eq_false_iff_not]
    intro hh
    subst hh
    have := ha.1
    have := hb.1
    omega
end Go.Proofs.Ytnldobfafaajjaa
