/- Walk: compact (program). Conditions as stated. -/
import Derived.Test.YtlonhkjplijlcaaMrg24
import Derived.Test.YtlonhkjplijlcaaMrg25
import Derived.Test.YtlonhkjplijlcaaMrg23
namespace Go.Proofs.Ytlonhkjplijlcaa
open Go.RowKit
end Go.Proofs.Ytlonhkjplijlcaa
