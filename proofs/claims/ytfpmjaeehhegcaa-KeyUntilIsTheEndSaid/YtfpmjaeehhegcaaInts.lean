/- Walks: slices.Index, Contains, Equal of numbers; Below. Conditions as stated. -/
import Derived.Test.YtfpmjaeehhegcaaRotA
namespace Go.Proofs.Ytfpmjaeehhegcaa
open Go.RowKit

/-- A list of numbers, its cells by their number. -/
theorem At.num {w : World} {b off n c : Nat} {l : List Int} (h : At w 1 e64 (some ⟨b, off, none⟩) n c l) {k : Nat} (hk : k < n) : w.cell? ⟨b, off + k, none⟩ = some (.int .i64 (l.getD k 0)) := by
  have hl := h.len
  obtain ⟨b', off', e, hc⟩ := h.cells k _ (List.getElem?_eq_getElem (by omega))
  injection e with e
  injection e with e1 e2
  subst e1 e2
  have := hc 0 _ rfl
  rw [show l.getD k 0 = l[k]'(by omega) by simp [List.getD, show k < l.length by omega]]
  simpa using this
def IdxPost (l : List Int) (v : Int) (w : World) (e : Ending) (w' : World) : Prop := ∃ r : Int, e = .returned (.int .i64 r) ∧ (0 ≤ r ↔ v ∈ l) ∧ w = w'
theorem idxPost_in {l : List Int} {v : Int} {w : World} {k : Nat} (hk : k < l.length) (h : v = l.getD k 0) : IdxPost l v w (.returned (.int .i64 (k : Int))) w := by
  refine ⟨_, rfl, ?_, rfl⟩
  have : v ∈ l := by rw [h]; simp [List.getD, hk]
  simp [this]
theorem idxPost_out {l : List Int} {v : Int} {w : World} (h : ∀ j, j < l.length → v ≠ l.getD j 0) : IdxPost l v w (.returned (.int .i64 (-1))) w := by
  refine ⟨_, rfl, ?_, rfl⟩
  have : v ∉ l := by
    intro hv
    obtain ⟨j, hj, e⟩ := List.getElem_of_mem hv
    exact h j hj (by simp [List.getD, hj, e])
  simp [this]
/-- Below, as a number. -/
theorem below_any (x n : Int) (hn : 0 < n) (hn2 : n ≤ 4000000000000000000) (hx : -9223372036854775808 ≤ x ∧ x ≤ 9223372036854775807) (w : World) :
    Calls Try.prog 9 #[.int .i64 x, .int .i64 n] w fun e w' => e = .returned (.int .i64 (x % n)) ∧ w = w' := by
  have h1 := Int.tmod_lt_of_pos x hn
  have h2 : -n < x.tmod n := Int.lt_tmod_of_pos x hn
  have h3 : x % n = x.tmod n % n := by
    have := Int.tmod_add_mul_tdiv x n
    conv => lhs; rw [← this]
    exact Int.add_mul_emod_self_left _ _ _
  have hr : x % n = if x.tmod n < 0 then x.tmod n + n else x.tmod n := by
    rw [h3]
    split
    · rw [← Int.add_emod_right, Int.emod_eq_of_lt (by omega) (by omega)]
    · exact Int.emod_eq_of_lt (by omega) (by omega)
  rw [hr]
  clear hr h3
  have hn0 : n ≠ 0 := by omega
  obtain ⟨hx1, hx2⟩ := hx
  generalize hq : x.tmod n = r at *
  by_cases h0 : r < 0
  · rw [if_pos h0]
    go_enter Try.func9, Try.ntmps9
    go_wp2
    go_ret
    exact ⟨rfl, rfl⟩
  · rw [if_neg h0]
    go_enter Try.func9, Try.ntmps9
    go_wp2
    go_ret
    exact ⟨rfl, rfl⟩
end Go.Proofs.Ytfpmjaeehhegcaa
