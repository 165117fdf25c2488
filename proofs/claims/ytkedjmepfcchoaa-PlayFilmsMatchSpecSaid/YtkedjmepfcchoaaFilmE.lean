/- Walk: R11.CheckPlayer. Conditions: none. -/
import Derived.Test.YtkedjmepfcchoaaFilmE0
import Derived.Test.YtkedjmepfcchoaaFilmE2
import Derived.Test.YtkedjmepfcchoaaFilmE3
import Derived.Test.YtkedjmepfcchoaaFilmE4
namespace Go.Proofs.Ytkedjmepfcchoaa
open Go.RowKit
theorem refPlr_any {d s r f i k l t lo hi a x y z : Int} {w : World} :
    Calls Try.prog 23 #[plV d s r f i k l t lo hi a x y z] w fun e w' => e = .returned (.int .i64 (plrF d s r f i k l t lo hi a x y z)) ∧ Ext w w' := by
  by_cases h2 : k = 2
  · subst h2; exact refPlr_2
  by_cases h3 : k = 3
  · subst h3; exact refPlr_3
  by_cases h4 : k = 4
  · subst h4; exact refPlr_4
  exact refPlr_0 h2 h3 h4
end Go.Proofs.Ytkedjmepfcchoaa
