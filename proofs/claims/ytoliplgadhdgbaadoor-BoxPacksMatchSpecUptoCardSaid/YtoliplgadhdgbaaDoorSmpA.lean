/- Walk: CheckSamples (program). Conditions as stated. -/
import Derived.Test.YtoliplgadhdgbaaDoorSmpP
import Derived.Test.YtoliplgadhdgbaaDoorOut
import Derived.Test.YtoliplgadhdgbaaDoorTw
import Derived.Test.YtoliplgadhdgbaaDoorStep
namespace Go.Proofs.YtoliplgadhdgbaaDoor
open Go.RowKit
abbrev eSm (x : Smp) : List Value := [.int .i64 x.time, .int .i64 x.step, .int .i64 x.shift, .int .i64 x.size, .bool x.key]
theorem len_eSm (x : Smp) : (eSm x).length = 5 := rfl
theorem one_eSm (x : Smp) : ∀ u ∈ eSm x, u.oneCell' = true := by
  intro u hu
  simp at hu
  rcases hu with rfl | rfl | rfl | rfl | rfl <;> rfl
end Go.Proofs.YtoliplgadhdgbaaDoor
