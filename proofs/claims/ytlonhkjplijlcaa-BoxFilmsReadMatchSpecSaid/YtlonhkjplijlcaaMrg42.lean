/- Walk: readFragment (reference). Conditions as stated. -/
import Derived.Test.YtlonhkjplijlcaaMrg40
import Derived.Test.YtlonhkjplijlcaaMrg39
import Derived.Test.YtlonhkjplijlcaaMrg02
import Derived.Test.YtlonhkjplijlcaaMrg09
import Derived.Test.YtlonhkjplijlcaaMrg08
namespace Go.Proofs.Ytlonhkjplijlcaa
open Go.RowKit
theorem byte1 (b : List UInt8) (s : Rd) : ∃ x : UInt8, tkL b 1 s = [x] ∧ x.toNat = (rdN b 1 s).1 := by
  have hl : (tkL b 1 s).length = 1 := tkL_len
  match h : tkL b 1 s, hl with
  | [x], _ =>
    refine ⟨x, rfl, ?_⟩
    rw [← tkL_num, h]
    show x.toNat = 0 * 256 + x.toNat
    omega
end Go.Proofs.Ytlonhkjplijlcaa
