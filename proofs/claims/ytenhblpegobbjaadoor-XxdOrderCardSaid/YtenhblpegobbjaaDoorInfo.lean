/- What the program's table says of some element types. -/
import Derived.Test.YtenhblpegobbjaaDoorChecked
import Derived.Test.YtenhblpegobbjaaDoorMem
namespace Go.Proofs.YtenhblpegobbjaaDoor
theorem infoU8 : (Tryd.prog.info? 5).map (fun i => (i.zero, i.size, i.bytes)) = some (some (.int .u8 0), 1, 1) := by kernel_rfl
end Go.Proofs.YtenhblpegobbjaaDoor
