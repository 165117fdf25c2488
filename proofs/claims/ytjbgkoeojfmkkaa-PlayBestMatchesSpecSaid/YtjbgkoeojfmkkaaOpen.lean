/- Arguments of the statements on players, opened. Conditions as stated. -/
import Derived.Test.YtjbgkoeojfmkkaaOpens
namespace Go.Proofs.Ytjbgkoeojfmkkaa
open Go.ChangeShapes Go.WideShapes Go.ChangeAt Go.RowKit Go.Joins
section
variable {H : Type} {enc : TypeId × Value → H} {W : World} {base : Nat}
set_option maxRecDepth 100000 in
theorem open_flows {v : Value} {d : DataW H} {p : List MemPlace} (hv : Value.okWide Try.prog W .any base 26 v) (h : DataW.Trod enc Try.prog W 0 (fun _ => true) true 26 v d p) :
    ∃ A n c l, v = .slice A n c ∧ At W 2 e2 A n c l ∧ (∀ x ∈ l, ok2 x) ∧ Takes d c :=
  open_pairsP Try.underlying26 Try.underlying69 (by kernel_rfl) (by kernel_rfl) Try.underlying3 Try.underlying3 hv h
end
end Go.Proofs.Ytjbgkoeojfmkkaa
