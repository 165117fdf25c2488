/- Walk: choicesFault. Conditions as stated. -/
import Derived.Test.YtfelgolfebhmkaaDoorMtm24
import Derived.Test.YtfelgolfebhmkaaDoorMtm19
import Derived.Test.YtfelgolfebhmkaaDoorMtm07
namespace Go.Proofs.YtfelgolfebhmkaaDoor
open Go.RowKit
def chsF (n m : Int) (C : List Int) : Int := if (C.length : Int) ≠ n then 3 else if rngB 0 (m - 1) C = true then 1 else 0
theorem rngB_cons (lo hi y : Int) (r : List Int) : rngB lo hi (y :: r) = (decide (y < lo ∨ hi < y) || rngB lo hi r) := rfl
section
variable {lA : Option Addr} {ln lc : Nat} {sA : Option Addr} {sn sc : Nat} {qA : Option Addr} {qn qc : Nat} {w : World}
end
end Go.Proofs.YtfelgolfebhmkaaDoor
