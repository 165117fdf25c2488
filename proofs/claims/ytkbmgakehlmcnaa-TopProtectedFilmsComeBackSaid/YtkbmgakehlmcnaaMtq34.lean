/- Several texts in one: Walks: samplesOf, counted, checkChunks (reference). Conditions as stated; Walk: CheckTable (reference). Conditions as stated. -/
import Derived.Test.YtkbmgakehlmcnaaMtq21
import Derived.Test.YtkbmgakehlmcnaaMtq19
import Derived.Test.YtkbmgakehlmcnaaMtq33
namespace Go.Proofs.Ytkbmgakehlmcnaa
open Go.RowKit
end Go.Proofs.Ytkbmgakehlmcnaa
