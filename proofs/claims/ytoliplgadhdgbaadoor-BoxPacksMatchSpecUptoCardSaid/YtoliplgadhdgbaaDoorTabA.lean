/- Walks: runsFault, counted, chunksFault, CheckTable (program). Conditions as stated. -/
import Derived.Test.YtoliplgadhdgbaaDoorTabP
import Derived.Test.YtoliplgadhdgbaaDoorSmpA
import Derived.Deep.DeepCutAuto
namespace Go.Proofs.YtoliplgadhdgbaaDoor
open Go.RowKit
theorem At.pairK {w : World} {b off n c : Nat} {l : List (Int × Int)} (h : At w 2 e2 (some ⟨b, off, none⟩) n c l) {k : Nat} (hk : k < n) :
    w.cell? ⟨b, off + k * 2, none⟩ = some (.int .i64 (l.getD k (0, 0)).1) ∧ w.cell? ⟨b, off + k * 2 + 1, none⟩ = some (.int .i64 (l.getD k (0, 0)).2) := h.pair hk
end Go.Proofs.YtoliplgadhdgbaaDoor
