/- Walks: kit.Out, within. Conditions as stated. -/
import Derived.Test.YtoliplgadhdgbaaDoorPairs
import Derived.Test.YtoliplgadhdgbaaDoorProg
import Derived.Deep.RegionHeld3
import Derived.Deep.RegionWith
import Derived.StillTailTactics
import Derived.Handy
import Derived.Lib.MinMax
namespace Go.Proofs.YtoliplgadhdgbaaDoor
open Go.RowKit

theorem out_no {n lo hi : Int} (h : lo ≤ n ∧ n ≤ hi) (w : World) :
    Calls Tryd.prog 30 #[.int .i64 n, .int .i64 lo, .int .i64 hi] w fun e w' => e = .returned (.bool false) ∧ w = w' := by
  obtain ⟨h1, h2⟩ := h
  go_enter Tryd.func30, Tryd.ntmps30
  go_wp2
  go_ret
  exact ⟨ret_bool (by first | rfl | (simp; omega)), rfl⟩
theorem out_yes {n lo hi : Int} (h : n < lo ∨ hi < n) (w : World) :
    Calls Tryd.prog 30 #[.int .i64 n, .int .i64 lo, .int .i64 hi] w fun e w' => e = .returned (.bool true) ∧ w = w' := by
  by_cases h1 : n < lo
  · clear h
    go_enter Tryd.func30, Tryd.ntmps30
    go_wp2
    go_ret
    exact ⟨ret_bool (by first | rfl | (simp; omega)), rfl⟩
  · have h2 : hi < n := by omega
    clear h
    go_enter Tryd.func30, Tryd.ntmps30
    go_wp2
    go_ret
    exact ⟨ret_bool (by first | rfl | (simp; omega)), rfl⟩
/-- Numbers, their cells by their place. -/
theorem At.num {w : World} {b off n c : Nat} {l : List Int} (h : At w 1 e64 (some ⟨b, off, none⟩) n c l) {k : Nat} (hk : k < n) : w.cell? ⟨b, off + k, none⟩ = some (.int .i64 (l.getD k 0)) := by
  have hl := h.len
  obtain ⟨b', off', e, hc⟩ := h.cells k _ (List.getElem?_eq_getElem (by omega))
  injection e with e
  injection e with e1 e2
  subst e1 e2
  have := hc 0 _ rfl
  rw [show l.getD k 0 = l[k]'(by omega) by simp [List.getD, show k < l.length by omega]]
  simpa using this
end Go.Proofs.YtoliplgadhdgbaaDoor
