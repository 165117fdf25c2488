/- The statements' awake: it is true. No condition. -/
import Derived.Test.YtfpmjaeehhegcaaKeyJ
import Derived.Test.YtfpmjaeehhegcaaLaw
namespace Go.Proofs.Ytfpmjaeehhegcaa
open Go.ChangeShapes Go.WideShapes Go.ChangeAt Go.RowKit Kc

theorem awake_any (w : World) : Calls Try.prog 8 #[] w fun e w' => e = .returned (.bool true) ∧ Ext w w' := by
  go_enter Try.func8, Try.ntmps8
  go_wp2_with fail
  refine (digest_any (At.nil w 1 e8) (by omega)).mono ?_
  rintro e w1 ⟨g, rfl, _, e1⟩
  have E1 := hide e1
  clear e1
  go_wp2
  go_ret
  exact ⟨rfl, E1.out⟩
end Go.Proofs.Ytfpmjaeehhegcaa
