/- Walks: checkSizes and CheckFilm of the reference. Conditions as stated. -/
import Derived.Test.YtfelgolfebhmkaaDoorMtm20
namespace Go.Proofs.YtfelgolfebhmkaaDoor
open Go.RowKit
theorem sumI_all {l : List Int} : ∀ {n : Nat}, l.length = n → sumI l n = l.sum := fun h => by unfold sumI; rw [← h, List.take_length]
theorem pos_bd {l : List Int} (h : rngB 1 1000000000 l = false) : ∀ i, i < l.length → 0 ≤ l.getD i 0 ∧ l.getD i 0 ≤ 1000000000 := fun i hi => by have := rngB_false h i hi; omega
section
variable {lA : Option Addr} {ln lc : Nat} {sA : Option Addr} {sn sc : Nat} {qA : Option Addr} {qn qc : Nat} {L : List Int} {S : List (List Int)} {Q : List Int} {w : World}
@[reducible] def shO (lA : Option Addr) (ln lc : Nat) (sA : Option Addr) (sn sc : Nat) (qA : Option Addr) (qn qc : Nat) : Obj := .cells #[.slice lA ln lc, .slice sA sn sc, .slice qA qn qc] 25
theorem sh_cells (w : World) (lA : Option Addr) (ln lc : Nat) (sA : Option Addr) (sn sc : Nat) (qA : Option Addr) (qn qc : Nat) {W : World} (hW : Ext (w.alloc (.cells #[.slice lA ln lc, .slice sA sn sc, .slice qA qn qc] 25)) W) :
    W.cell? ⟨w.heap.size, 0, none⟩ = some (.slice lA ln lc) ∧ W.cell? ⟨w.heap.size, 1, none⟩ = some (.slice sA sn sc) ∧ W.cell? ⟨w.heap.size, 2, none⟩ = some (.slice qA qn qc) := by
  have b := (Blk.new w 25 #[.slice lA ln lc, .slice sA sn sc, .slice qA qn qc]).ext hW
  exact ⟨b.cell 0, b.cell 1, b.cell 2⟩
end
end Go.Proofs.YtfelgolfebhmkaaDoor
