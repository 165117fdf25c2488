/- Several texts in one: Walk: tableBytes (program). Conditions as stated; Marks of samples in plain words. Plain; Walk: written (reference). Conditions as stated; A fragment's bytes in plain words. Plain. -/
import Derived.Test.YtlonhkjplijlcaaMrg07
import Derived.Deep.RegionHeld3
import Derived.Test.YtlonhkjplijlcaaMrg00
import Derived.Test.YtlonhkjplijlcaaMrg06
import Derived.Test.YtlonhkjplijlcaaMrg03
import Derived.Test.YtlonhkjplijlcaaMrg08
namespace Go.Proofs.Ytlonhkjplijlcaa
open Go.RowKit
/-- Few of all. -/
structure TabFw (sn hn zn kn cn pn : Nat) : Prop where
  s : sn ≤ 5000
  h : hn ≤ 5000
  z : zn ≤ 5000
  k : kn ≤ 5000
  c : cn ≤ 5000
  p : pn ≤ 5000
end Go.Proofs.Ytlonhkjplijlcaa
namespace Go.Proofs.Ytlonhkjplijlcaa
/-- The first so many samples are alike. -/
def pS (l : List Smp) (k : Nat) : Bool := decide (∀ j, j < k → (l.getD j dS).step = (l.getD 0 dS).step)
end Go.Proofs.Ytlonhkjplijlcaa
namespace Go.Proofs.Ytlonhkjplijlcaa
open Go.RowKit
end Go.Proofs.Ytlonhkjplijlcaa
namespace Go.Proofs.Ytlonhkjplijlcaa
end Go.Proofs.Ytlonhkjplijlcaa
