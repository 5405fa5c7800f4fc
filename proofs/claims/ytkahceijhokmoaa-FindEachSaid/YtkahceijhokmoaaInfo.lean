/- What the program's table says of some element types. -/
import Derived.Test.YtkahceijhokmoaaChecked
import Derived.Test.YtkahceijhokmoaaMem
namespace Go.Proofs.Ytkahceijhokmoaa
theorem infoU8 : (Try.prog.info? 5).map (fun i => (i.zero, i.size, i.bytes)) = some (some (.int .u8 0), 1, 1) := by kernel_rfl
end Go.Proofs.Ytkahceijhokmoaa
