/- Walks: list and runs of the program's source. Conditions as stated. -/
import Derived.Test.YtoliplgadhdgbaaDoorLstP
import Derived.Test.YtoliplgadhdgbaaDoorSrcA
import Derived.Test.YtoliplgadhdgbaaDoorTree
import Derived.Deep.DeepCutAuto
namespace Go.Proofs.YtoliplgadhdgbaaDoor
open Go.RowKit
theorem Tryd.info3 : (Tryd.prog.info? 3).map (fun i => (i.zero, i.size, i.bytes)) = some (some (.int .i64 0), 1, 8) := by kernel_rfl
end Go.Proofs.YtoliplgadhdgbaaDoor
