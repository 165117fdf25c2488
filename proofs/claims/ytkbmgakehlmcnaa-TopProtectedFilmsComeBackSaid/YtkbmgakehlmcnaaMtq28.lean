/- Several texts in one: Walk: marks (program). Conditions as stated; Walk: FragmentBytes (program). Conditions as stated. -/
import Derived.Test.YtkbmgakehlmcnaaMtq27
import Derived.Test.YtkbmgakehlmcnaaMtq01
import Derived.Deep.RegionHeld3
namespace Go.Proofs.Ytkbmgakehlmcnaa
open Go.RowKit
end Go.Proofs.Ytkbmgakehlmcnaa
