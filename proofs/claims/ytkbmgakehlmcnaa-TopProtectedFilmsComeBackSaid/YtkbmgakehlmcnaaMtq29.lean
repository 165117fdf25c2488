/- Several texts in one: Walk: marks (reference). Conditions as stated; Walk: checkFragment, FragmentBytes (reference). Conditions as stated. -/
import Derived.Test.YtkbmgakehlmcnaaMtq27
import Derived.Test.YtkbmgakehlmcnaaMtq01
import Derived.Deep.DeepCutAuto
import Derived.Test.YtkbmgakehlmcnaaMtq28
import Derived.Test.YtkbmgakehlmcnaaMtq25
namespace Go.Proofs.Ytkbmgakehlmcnaa
open Go.RowKit
end Go.Proofs.Ytkbmgakehlmcnaa
