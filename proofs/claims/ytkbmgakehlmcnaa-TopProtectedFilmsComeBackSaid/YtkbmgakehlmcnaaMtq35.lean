/- Several texts in one: Walks: tableBytes, TableBytes (reference). Conditions as stated; A result variable that is a table, read back. Conditions as stated. -/
import Derived.Test.YtkbmgakehlmcnaaMtq30
import Derived.Test.YtkbmgakehlmcnaaMtq33
import Derived.Test.YtkbmgakehlmcnaaMtq34
import Derived.Test.YtkbmgakehlmcnaaMtq24
namespace Go.Proofs.Ytkbmgakehlmcnaa
open Go.RowKit
theorem res_table {fn : Func} (hr : fn.results = #[.cell 6 82]) {tmps : Array Value} {W : World} {g : Nat} {c0 c1 c2 c3 c4 c5 c6 : Value} (h : tmps.getD 6 undef = .pointer (some ⟨g, 0, none⟩)) (hb : Blk W g 82 #[c0, c1, c2, c3, c4, c5, c6]) :
    (results fn tmps).run Try.prog W = .ok (.agg #[c0, c1, c2, c3, c4, c5, c6]) W := by
  have k0 : W.cell? ⟨g, 0, none⟩ = some c0 := hb.cell 0
  have k1 : W.cell? ⟨g, 1, none⟩ = some c1 := hb.cell 1
  have k2 : W.cell? ⟨g, 2, none⟩ = some c2 := hb.cell 2
  have k3 : W.cell? ⟨g, 3, none⟩ = some c3 := hb.cell 3
  have k4 : W.cell? ⟨g, 4, none⟩ = some c4 := hb.cell 4
  have k5 : W.cell? ⟨g, 5, none⟩ = some c5 := hb.cell 5
  have k6 : W.cell? ⟨g, 6, none⟩ = some c6 := hb.cell 6
  have h' : tmps[6]?.getD undef = .pointer (some ⟨g, 0, none⟩) := by rw [← h]; simp
  simp [results, hr, h', go_sem, k0, k1, k2, k3, k4, k5, k6]
end Go.Proofs.Ytkbmgakehlmcnaa
