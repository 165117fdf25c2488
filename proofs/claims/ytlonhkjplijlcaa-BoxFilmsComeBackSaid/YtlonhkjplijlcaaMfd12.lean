/- Walk: FragmentBytes (program). Conditions as stated. -/
import Derived.Test.YtlonhkjplijlcaaMfd11
import Derived.Deep.RegionHeld3
namespace Go.Proofs.Ytlonhkjplijlcaa
open Go.RowKit
end Go.Proofs.Ytlonhkjplijlcaa
