/- Walks: loadsFault; choose and Choose of a player that looks at its buffer alone. Conditions as stated. -/
import Derived.Test.YtfelgolfebhmkaaDoorMtm35
import Derived.Test.YtfelgolfebhmkaaDoorMtm26
namespace Go.Proofs.YtfelgolfebhmkaaDoor
open Go.RowKit
def okH (x : Int × Int) : Bool := decide (0 ≤ x.1 ∧ x.1 ≤ 1000000000 ∧ 0 ≤ x.2 ∧ x.2 ≤ 2000000000000)
section
variable {lA : Option Addr} {ln lc : Nat} {sA : Option Addr} {sn sc : Nat} {qA : Option Addr} {qn qc : Nat} {L : List Int} {S : List (List Int)} {Q : List Int} {d0 s0 r0 f0 i0 k0 l0 t0 lo0 hi0 a0 x0 y0 z0 : Int} {nx tm bu bf : Int} {ldA : Option Addr} {ldn ldc : Nat} {w : World} {LD : List (Int × Int)}
end
end Go.Proofs.YtfelgolfebhmkaaDoor
