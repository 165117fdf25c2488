/- Walk: FragmentBytes (program). Conditions as stated. -/
import Derived.Test.YtlonhkjplijlcaaMrg09
import Derived.Test.YtlonhkjplijlcaaMrg10
import Derived.Deep.RegionHeld3
namespace Go.Proofs.Ytlonhkjplijlcaa
open Go.RowKit
end Go.Proofs.Ytlonhkjplijlcaa
