/- The law's own helper pick: one of n that a number stands for. -/
import Derived.Test.YtkahceijhokmoaaChecked
import Derived.Test.YtkahceijhokmoaaCommon
namespace Go.Proofs.Ytkahceijhokmoaa
open Go.RowKit
theorem pick_at (a n : Int) (m : Nat) (w : World) (hm : n = (m : Int)) (hn : 1 ≤ m) (hn' : m ≤ 4611686018427387904) :
    Calls Try.prog 8 #[.int .i64 a, .int .i64 n] w fun e w' => e = .returned (.int .i64 (pickN a m : Nat)) ∧ w = w' := by
  subst hm
  rw [pickN_cast a m hn]
  have hn1 : (1 : Int) ≤ (m : Int) := by omega
  go_enter Try.func8, Try.ntmps8
  go_wp2_with fail
  go_ret
  refine ⟨ret_int ?_, rfl⟩
  show wrap64 ((IntKind.u64.wrap a).tmod m) = pickI a m
  rw [IntKind.wrap_u64, Int.tmod_eq_emod_of_nonneg (by omega)]
  unfold pickI
  have h1 := Int.emod_nonneg (a % 18446744073709551616) (show (m : Int) ≠ 0 by omega)
  have h2 := Int.emod_lt_of_pos (a % 18446744073709551616) (show (0 : Int) < m by omega)
  exact IntWalk.wrap64_in _ ⟨by omega, by omega⟩
end Go.Proofs.Ytkahceijhokmoaa
