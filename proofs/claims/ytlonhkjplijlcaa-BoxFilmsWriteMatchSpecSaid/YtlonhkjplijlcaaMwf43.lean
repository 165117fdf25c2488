/- Walks: check and checkBoxes (reference). Conditions as stated. -/
import Derived.Test.YtlonhkjplijlcaaMwf42
import Derived.Test.YtlonhkjplijlcaaMwf40
namespace Go.Proofs.Ytlonhkjplijlcaa
open Go.RowKit
theorem isKindRL (k : List UInt8) (hk : k.length ≤ maxLen) (w : World) : Calls Try.prog 87 #[.string ⟨k.toArray⟩] w fun e w' => e = .returned (.bool (isKindB k)) ∧ w = w' := by
  have := isKindR_any ⟨k.toArray⟩ w (by show k.toArray.size ≤ maxLen; simpa using hk)
  simpa using this
end Go.Proofs.Ytlonhkjplijlcaa
