/- What the program's table says of some element types. -/
import Derived.Test.YtnmbakibiaedhaaDoorChecked
import Derived.Test.YtnmbakibiaedhaaDoorMem
namespace Go.Proofs.YtnmbakibiaedhaaDoor
theorem infoU8 : (Tryd.prog.info? 5).map (fun i => (i.zero, i.size, i.bytes)) = some (some (.int .u8 0), 1, 1) := by kernel_rfl
end Go.Proofs.YtnmbakibiaedhaaDoor
