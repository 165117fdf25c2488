/- Several texts in one: Walks: tableBytes, TableBytes (reference). Conditions as stated; Walks: addRun of the program, grown of the reference. Conditions as stated; Walks: slices.Clone, slices.Min and slices.Max of ints. Conditions as stated. -/
import Derived.Test.YtlonhkjplijlcaaMrg13
import Derived.Test.YtlonhkjplijlcaaMrg17
import Derived.Test.YtlonhkjplijlcaaMrg19
import Derived.Test.YtlonhkjplijlcaaMrg07
namespace Go.Proofs.Ytlonhkjplijlcaa
open Go.RowKit
end Go.Proofs.Ytlonhkjplijlcaa
namespace Go.Proofs.Ytlonhkjplijlcaa
open Go.RowKit
theorem Grw.set1 (w : World) (g i n c : Nat) (u : Value) : Grw w (w.setCell ⟨g, i, none⟩ u) (.slice (some ⟨g, 0, none⟩) n c) (.slice (some ⟨g, 0, none⟩) n c) := by
  have h := Tw.set_ w g i u none
  exact ⟨⟨h.os, h.tape, h.output, h.size, fun k hk hr => h.block k hk (fun e => hr (by rw [e]; rfl)) (by simp)⟩, .inl rfl⟩
end Go.Proofs.Ytlonhkjplijlcaa
namespace Go.Proofs.Ytlonhkjplijlcaa
open Go.RowKit
end Go.Proofs.Ytlonhkjplijlcaa
