/- Several texts in one: Walk: checkFragment, FragmentBytes (reference). Conditions as stated; Walks: runBytes, listBytes (reference). Conditions as stated. -/
import Derived.Test.YtlonhkjplijlcaaMfd12
import Derived.Test.YtlonhkjplijlcaaMfd13
import Derived.Test.YtlonhkjplijlcaaMfd10
namespace Go.Proofs.Ytlonhkjplijlcaa
open Go.RowKit
theorem lsB_two (l : List Int) (x y : Int) : lsB (l ++ [x, y]) = lsB l ++ beN 8 (u64N x) ++ beN 8 (u64N y) := by unfold lsB; rw [List.flatMap_append]; simp
end Go.Proofs.Ytlonhkjplijlcaa
