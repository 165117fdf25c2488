/- Walk: R11.CheckPlayer. Conditions: none. -/
import Derived.Test.YtjbgkoeojfmkkaaFilmE0
import Derived.Test.YtjbgkoeojfmkkaaFilmE2
import Derived.Test.YtjbgkoeojfmkkaaFilmE3
import Derived.Test.YtjbgkoeojfmkkaaFilmE4
namespace Go.Proofs.Ytjbgkoeojfmkkaa
open Go.RowKit
theorem refPlr_any {d s r f i k l t lo hi a x y z : Int} {w : World} :
    Calls Try.prog 70 #[plV d s r f i k l t lo hi a x y z] w fun e w' => e = .returned (.int .i64 (plrF d s r f i k l t lo hi a x y z)) ∧ Ext w w' := by
  by_cases h2 : k = 2
  · subst h2; exact refPlr_2
  by_cases h3 : k = 3
  · subst h3; exact refPlr_3
  by_cases h4 : k = 4
  · subst h4; exact refPlr_4
  exact refPlr_0 h2 h3 h4
end Go.Proofs.Ytjbgkoeojfmkkaa
