/- Walks: list and runs of the program's source. Conditions as stated. -/
import Derived.Test.YtpmihibdfacomaaLstP
import Derived.Test.YtpmihibdfacomaaSrcA
import Derived.Test.YtpmihibdfacomaaTree
import Derived.Deep.DeepCutAuto
namespace Go.Proofs.Ytpmihibdfacomaa
open Go.RowKit
theorem Try.info3 : (Try.prog.info? 3).map (fun i => (i.zero, i.size, i.bytes)) = some (some (.int .i64 0), 1, 8) := by kernel_rfl
end Go.Proofs.Ytpmihibdfacomaa
