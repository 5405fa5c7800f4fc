/- Run equations of math's doors to and from bits. -/
import Derived.Test.YtmmkbjinkdgdbaaRealD
import Derived.Laws.Externs
import Derived.Laws.Cover2
namespace Go.Proofs.Ytmmkbjinkdgdbaa
open Go.RowKit
set_option linter.unusedVariables false
set_option linter.unusedSimpArgs false
theorem f32from (b : Nat) (w : World) : (callFunc 33 #[.int .u32 (b : Int)]).run Try.prog w = .ok (.value (.float .f32 b)) w := by
  rw [run_callFunc_extern (P := Try.prog) (fn := Try.f33) (e := Extern.MathFloatBits.float32frombits) (by kernel_rfl) (by kernel_rfl) (by kernel_rfl) (by kernel_rfl) (by kernel_rfl)]
  rfl
theorem f64from (b : Nat) (w : World) : (callFunc 35 #[.int .u64 (b : Int)]).run Try.prog w = .ok (.value (.float .f64 b)) w := by
  rw [run_callFunc_extern (P := Try.prog) (fn := Try.f35) (e := Extern.MathFloatBits.float64frombits) (by kernel_rfl) (by kernel_rfl) (by kernel_rfl) (by kernel_rfl) (by kernel_rfl)]
  rfl
theorem f64bits (b : Nat) (w : World) : (callFunc 36 #[.float .f64 b]).run Try.prog w = .ok (.value (.int .u64 (b : Int))) w := by
  rw [run_callFunc_extern (P := Try.prog) (fn := Try.f36) (e := Extern.MathFloatBits.float64bits) (by kernel_rfl) (by kernel_rfl) (by kernel_rfl) (by kernel_rfl) (by kernel_rfl)]
  rfl
end Go.Proofs.Ytmmkbjinkdgdbaa
