/- Several texts in one: Marks of samples in plain words. Plain; Walk: written (reference). Conditions as stated; A fragment's bytes in plain words. Plain; Walk: marks (program). Conditions as stated. -/
import Derived.Test.YtlonhkjplijlcaaMfd00
import Derived.Test.YtlonhkjplijlcaaMfd07
import Derived.Test.YtlonhkjplijlcaaMfd04
import Derived.Test.YtlonhkjplijlcaaMfd10
import Derived.Test.YtlonhkjplijlcaaMfd01
namespace Go.Proofs.Ytlonhkjplijlcaa
end Go.Proofs.Ytlonhkjplijlcaa
namespace Go.Proofs.Ytlonhkjplijlcaa
open Go.RowKit
end Go.Proofs.Ytlonhkjplijlcaa
namespace Go.Proofs.Ytlonhkjplijlcaa
end Go.Proofs.Ytlonhkjplijlcaa
namespace Go.Proofs.Ytlonhkjplijlcaa
open Go.RowKit
end Go.Proofs.Ytlonhkjplijlcaa
