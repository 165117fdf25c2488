/- Slice expressions of a slice that reads as a list: one equation, whatever its capacity. Conditions: bounds as stated. -/
import Derived.Test.YtfelgolfebhmkaaDoorMtm00
namespace Go.Proofs.YtfelgolfebhmkaaDoor
open Go.RowKit
theorem At.from_ {α : Type} {P : Program} {T elem : TypeId} {sz : Nat} {enc : α → List Value} {A : Option Addr} {n c : Nat} {xs : List α} {w : World} (hu : P.underlying T = some (.slice elem)) (hs : ∀ W, (Go.sizeOf elem).run P W = .ok sz W)
    (h : At w sz enc A n c xs) {k : Nat} (hk : k ≤ n) (i : Int) (hi : i = (k : Int)) :
    ∃ A', (∀ W, (Instr.slice T (.slice A n c) (some (.int .i64 i)) none none).run P W = .ok (.slice A' (n - k) (c - k)) W) ∧ (∀ W, At W sz enc A n c xs → At W sz enc A' (n - k) (c - k) (xs.drop k)) := by
  subst hi
  refine ⟨if c = k then A else A.map (·.add (k * sz)), fun W => ?_, fun W hW => hW.cut hk⟩
  have _hle := h.le
  simp [Instr.slice, run_underlying hu, Instr.sliceBounds, Instr.sliceBound, asIntOf, hs, go_sem, hk]
end Go.Proofs.YtfelgolfebhmkaaDoor
