/- Plain: the table of samples (compact). Conditions as stated. -/
import Derived.Test.YtlonhkjplijlcaaMrg20
import Derived.Test.YtlonhkjplijlcaaMrg00
import Derived.Test.YtlonhkjplijlcaaMrg05
namespace Go.Proofs.Ytlonhkjplijlcaa
end Go.Proofs.Ytlonhkjplijlcaa
