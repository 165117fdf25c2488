/- Walk: checkFragment, FragmentBytes (reference). Conditions as stated. -/
import Derived.Test.YtlonhkjplijlcaaMwf14
import Derived.Test.YtlonhkjplijlcaaMwf15
namespace Go.Proofs.Ytlonhkjplijlcaa
open Go.RowKit
/-- written at a number that the walk spells. -/
theorem wrtN {w : World} {x : Int} (many : Nat) (k : Int) (hk : (many : Int) = k) (hm : many ≤ 8) :
    Calls Try.prog 49 #[.int .i64 x, .int .i64 k] w fun e w' => ∃ g, e = .returned (.slice (some ⟨g, 0, none⟩) many many) ∧ At w' 1 e8 (some ⟨g, 0, none⟩) many many (beN many (u64n x)) ∧ Ext w w' := by
  rw [← hk]
  exact (written_any hm).mono fun e w' ⟨g, h1, h2, h3⟩ => ⟨g, h1, h2.atS len_e8, h3⟩
theorem wrtO {w : World} {x : Int} (many : Nat) (k : Int) (hk : (many : Int) = k) (hm : many ≤ 8) :
    Calls Try.prog 49 #[.int .i64 x, .int .i64 k] w fun e w' => ∃ g, e = .returned (.slice (some ⟨g, 0, none⟩) many many) ∧ Own w' w.heap.size 5 1 e8 (.slice (some ⟨g, 0, none⟩) many many) (beN many (u64n x)) ∧ Ext w w' := by
  rw [← hk]
  exact written_any hm
theorem goA {k n : Nat} {b : Bool} (h : k < n) (hk : k = 0) : true = decide (k < n ∧ (k = 0 ∨ b = false)) := by rw [eq_comm, decide_eq_true_iff]; exact ⟨h, .inl hk⟩
theorem goB {k n : Nat} {b : Bool} (h : k < n) (hk : 0 < k) : (!b) = decide (k < n ∧ (k = 0 ∨ b = false)) := by
  have : k ≠ 0 := by omega
  cases b <;> simp [h, this]
theorem ext_size {a b : World} (h : Ext a b) : a.heap.size ≤ b.heap.size := h.size
end Go.Proofs.Ytlonhkjplijlcaa
