/- Several texts in one: Walk: checkFragment, FragmentBytes (reference). Conditions as stated; Walks: runBytes, listBytes (reference). Conditions as stated. -/
import Derived.Test.YtlonhkjplijlcaaMrg11
import Derived.Test.YtlonhkjplijlcaaMrg12
import Derived.Test.YtlonhkjplijlcaaMrg09
namespace Go.Proofs.Ytlonhkjplijlcaa
open Go.RowKit
end Go.Proofs.Ytlonhkjplijlcaa
namespace Go.Proofs.Ytlonhkjplijlcaa
open Go.RowKit
end Go.Proofs.Ytlonhkjplijlcaa
