/- Walk: marks (program). Conditions as stated. -/
import Derived.Test.YtkdmfkpkelnheaaMrkP
import Derived.Test.YtkdmfkpkelnheaaSmpA
namespace Go.Proofs.Ytkdmfkpkelnheaa
open Go.RowKit
end Go.Proofs.Ytkdmfkpkelnheaa
