/- The law RealRises: the walk. -/
import Derived.Test.YtdjddiajnalffaaRealI
import Derived.Test.YtdjddiajnalffaaRealE
namespace Go.Proofs.Ytdjddiajnalffaa
open Go.RowKit
set_option linter.unusedVariables false
set_option linter.unusedSimpArgs false
theorem RealN.order_single (a b : Nat) (ha : RealO.nanW a = false) (hb : RealO.nanW b = false) (h : Ieee.double.order a b = some .lt ∨ Ieee.double.order a b = some .eq) :
    Ieee.single.order (RealN.nar a) (RealN.nar b) = some .lt ∨ Ieee.single.order (RealN.nar a) (RealN.nar b) = some .eq := by
  have := RealN.leq_rises a b ha hb (by rcases h with h | h <;> rw [h] <;> rfl)
  rw [Bool.or_eq_true, beq_iff_eq, beq_iff_eq] at this
  exact this
theorem RealN.order_three (a b : Nat) (ha : RealO.nanW a = false) (hb : RealO.nanW b = false) : Ieee.double.order a b = some .lt ∨ Ieee.double.order a b = some .eq ∨ Ieee.double.order a b = some .gt := by
  rw [RealO.order_ext a b ha hb]
  cases compare (RealO.ext a) (RealO.ext b) <;> simp
theorem Rises_quick (a b : Nat) (w : World) (o : Option Ordering) (ho : FloatKind.f64.format.order a b = o) (h1 : (o == some .lt) = false) (h2 : (o == some .eq) = false) :
    Calls Try.prog 12 #[.int .u64 (a : Nat), .int .u64 (b : Nat)] w fun e w' => e = .returned (.bool true) ∧ Below w.heap.size w w' := by
  have hx := f64from a
  have hy := f64from b
  go_enter Try.func12, Try.ntmps12
  go_wp2_with fail
  refine (halved_any _).mono ?_
  rintro e w1 ⟨rfl, hb1⟩
  go_wp2_with fail
  go_ret
  exact ⟨rfl, hb1⟩
set_option maxHeartbeats 1000000 in
theorem Rises_full (a b n m : Nat) (w : World) (o o2 : Ordering) (ho : FloatKind.f64.format.order a b = some o) (h1 : o = .lt ∨ o = .eq)
    (ho2 : FloatKind.f32.format.order n m = some o2) (h2 : o2 = .lt ∨ o2 = .eq)
    (hA : ∀ w, Calls Try.prog 41 #[.int .u64 a] w fun e w' => e = .returned (.int .u32 (n : Nat)) ∧ Below w.heap.size w w')
    (hB : ∀ w, Calls Try.prog 41 #[.int .u64 b] w fun e w' => e = .returned (.int .u32 (m : Nat)) ∧ Below w.heap.size w w') :
    Calls Try.prog 12 #[.int .u64 (a : Nat), .int .u64 (b : Nat)] w fun e w' => e = .returned (.bool true) ∧ Below w.heap.size w w' := by
  have hx := f64from a
  have hy := f64from b
  have hx2 := f32from n
  have hy2 := f32from m
  have HA := Lib.hid hA; clear hA
  have HB := Lib.hid hB; clear hB
  rcases h1 with rfl | rfl <;> rcases h2 with rfl | rfl
  all_goals
    go_enter Try.func12, Try.ntmps12
    go_wp2_with fail
    refine (halved_any _).mono ?_
    rintro e w1 ⟨rfl, hb1⟩
    go_wp2_with fail
    with_reducible refine (HA.out _).mono ?_
    rintro e w2 ⟨rfl, hb2⟩
    go_wp2_with fail
    with_reducible refine (HB.out _).mono ?_
    rintro e w3 ⟨rfl, hb3⟩
    go_wp2_with fail
    go_ret
    exact ⟨rfl, (hb1.trans (hb2.mono hb1.size)).trans (hb3.mono (Nat.le_trans hb1.size hb2.size))⟩
theorem RealRises_walk (a b : Nat) (ha : a < 18446744073709551616) (hb : b < 18446744073709551616) (w : World) :
    Calls Try.prog 12 #[.int .u64 (a : Nat), .int .u64 (b : Nat)] w fun e w' => e = .returned (.bool true) ∧ Below w.heap.size w w' := by
  cases hna : RealO.nanW a with
  | true => exact Rises_quick a b w none (RealO.order_nan a b (.inl hna)) rfl rfl
  | false =>
    cases hnb : RealO.nanW b with
    | true => exact Rises_quick a b w none (RealO.order_nan a b (.inr hnb)) rfl rfl
    | false =>
      have hA := fun w => Narrow_any a w ha hna
      have hB := fun w => Narrow_any b w hb hnb
      have h2 := RealN.order_single a b hna hnb
      rcases RealN.order_three a b hna hnb with h | h | h
      · rcases h2 (.inl h) with h3 | h3
        · exact Rises_full a b _ _ w _ _ h (.inl rfl) h3 (.inl rfl) hA hB
        · exact Rises_full a b _ _ w _ _ h (.inl rfl) h3 (.inr rfl) hA hB
      · rcases h2 (.inr h) with h3 | h3
        · exact Rises_full a b _ _ w _ _ h (.inr rfl) h3 (.inl rfl) hA hB
        · exact Rises_full a b _ _ w _ _ h (.inr rfl) h3 (.inr rfl) hA hB
      · exact Rises_quick a b w (some .gt) h rfl rfl
end Go.Proofs.Ytdjddiajnalffaa
