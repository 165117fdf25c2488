/- Walk: CheckTable (reference). Conditions as stated. -/
import Derived.Test.YtlonhkjplijlcaaMfd19
import Derived.Test.YtlonhkjplijlcaaMfd18
namespace Go.Proofs.Ytlonhkjplijlcaa
open Go.RowKit
end Go.Proofs.Ytlonhkjplijlcaa
