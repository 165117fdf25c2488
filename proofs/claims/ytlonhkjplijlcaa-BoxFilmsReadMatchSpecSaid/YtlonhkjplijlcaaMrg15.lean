/- Walk: laid (program). Conditions as stated. -/
import Derived.Test.YtlonhkjplijlcaaMrg14
import Derived.Lib.MinMax
namespace Go.Proofs.Ytlonhkjplijlcaa
open Go.RowKit
end Go.Proofs.Ytlonhkjplijlcaa
