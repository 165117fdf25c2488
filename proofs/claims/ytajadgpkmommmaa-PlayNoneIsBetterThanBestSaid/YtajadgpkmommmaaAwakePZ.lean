/- The statements' awake and comes: both are true. No condition. -/
import Derived.Test.YtajadgpkmommmaaNetB
namespace Go.Proofs.Ytajadgpkmommmaa
open Go.RowKit

theorem awake_any (w : World) : Calls Try.prog 8 #[] w fun e w' => e = .returned (.bool true) ∧ Ext w w' := by
  have hF : cameF [(0, 3)] 1 3 = 0 := by decide
  have hV : cameV [(0, 3)] 1 3 = 6 := by decide
  have HC := hide (fun (W : World) => keyCame_any (At.pair1 W 0 3 61) 1 3)
  rw [hF, hV] at HC
  clear hF hV
  go_enter Try.func8, Try.ntmps8
  go_wp2_with fail
  refine (HC.out _).mono ?_
  rintro e w1 ⟨rfl, e1⟩
  have E1 := hide e1
  clear e1
  go_wp2
  go_ret
  exact ⟨rfl, Ext.trans (Ext.alloc _ _) E1.out⟩

end Go.Proofs.Ytajadgpkmommmaa
