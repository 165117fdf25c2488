/- Several texts in one: Walk: marks (reference). Conditions as stated; Walk: CheckSamples (reference). Conditions as stated. -/
import Derived.Test.YtlonhkjplijlcaaMfd11
import Derived.Test.YtlonhkjplijlcaaMfd01
import Derived.Deep.DeepCutAuto
namespace Go.Proofs.Ytlonhkjplijlcaa
open Go.RowKit
end Go.Proofs.Ytlonhkjplijlcaa
