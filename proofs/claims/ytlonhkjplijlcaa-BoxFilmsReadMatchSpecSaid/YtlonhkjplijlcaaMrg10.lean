/- Walk: marks (program). Conditions as stated. -/
import Derived.Test.YtlonhkjplijlcaaMrg09
import Derived.Test.YtlonhkjplijlcaaMrg01
namespace Go.Proofs.Ytlonhkjplijlcaa
open Go.RowKit
end Go.Proofs.Ytlonhkjplijlcaa
