/- Walks: decrypt, xor. Conditions: lengths as stated. -/
import Derived.Test.YtfpmjaeehhegcaaKeyC
namespace Go.Proofs.Ytfpmjaeehhegcaa
open Go.RowKit Kc

theorem decN_step (l : List UInt8) (k : Nat) (hk : k < 16) (a b s : UInt32) :
    decN delta l (16 - k) a b s = decN delta l (16 - (k + 1)) (a - addA l (b - addB l a s) (s - delta)) (b - addB l a s) (s - delta) := by
  rw [show 16 - k = (16 - (k + 1)) + 1 by omega, decN_succ]

end Go.Proofs.Ytfpmjaeehhegcaa
