/- Walks: samplesOf, counted, checkChunks (reference). Conditions as stated. -/
import Derived.Test.YtlonhkjplijlcaaMfd09
import Derived.Test.YtlonhkjplijlcaaMfd07
namespace Go.Proofs.Ytlonhkjplijlcaa
open Go.RowKit
end Go.Proofs.Ytlonhkjplijlcaa
